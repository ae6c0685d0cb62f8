/- Text machines: a turn's moves and shows. Conditions: sizes, the laid tables. -/
import Derived.Test.YtcblpehnkogfdaaGreatDoorMaA
import Derived.Test.YtcblpehnkogfdaaGreatDoorSwD
namespace Go.Proofs.YtcblpehnkogfdaaGreatDoor
namespace Ma
open Sh Mat Fix Fo Sw Opr Pat
set_option linter.unusedVariables false
set_option linter.unusedSimpArgs false
set_option maxRecDepth 8000
set_option maxHeartbeats 4000000
theorem st_mat {w : World} {b o : Nat} {t : TypeId} {K : World → Prop} (r : Mx) {pre zs post : List Value} (h : Blk w b (pre ++ (zs ++ post)).toArray t) (ho : pre.length = o) (hz : zs.length = 6) (k : ∀ w2, Blk w2 b (pre ++ (mrow r ++ post)).toArray t → Ext (· = b) w w2 → K w2) :
    Sh.St w (⟨b, o, none⟩ : Addr) (.int .i64 r.1) fun w1 => Sh.St w1 (⟨b, o + 1, none⟩ : Addr) (.int .i64 r.2.1) fun w2 => Sh.St w2 (⟨b, o + 2, none⟩ : Addr) (.int .i64 r.2.2.1) fun w3 =>
      Sh.St w3 (⟨b, o + 3, none⟩ : Addr) (.int .i64 r.2.2.2.1) fun w4 => Sh.St w4 (⟨b, o + 4, none⟩ : Addr) (.int .i64 r.2.2.2.2.1) fun w5 => Sh.St w5 (⟨b, o + 5, none⟩ : Addr) (.int .i64 r.2.2.2.2.2) fun w6 => K w6 :=
  stL_blk (mrow r) zs pre post o w h ho hz k
attribute [local irreducible] Ld Sh.St Nw Nn Lt LdS
/-- A matrix is stored in its block. -/
theorem st_mx {w : World} {b : Nat} {m : Mx} (h : Blk w b (mrow m).toArray TM) (r : Mx) {K : World → Prop} (k : ∀ w2, Ext (· = b) w w2 → Blk w2 b (mrow r).toArray TM → K w2) :
    St w (⟨b, 0, none⟩ : Addr) (.int .i64 r.1) fun w1 => St w1 ((⟨b, 0, none⟩ : Addr).add 1) (.int .i64 r.2.1) fun w2 => St w2 ((⟨b, 0, none⟩ : Addr).add 2) (.int .i64 r.2.2.1) fun w3 =>
      St w3 ((⟨b, 0, none⟩ : Addr).add 3) (.int .i64 r.2.2.2.1) fun w4 => St w4 ((⟨b, 0, none⟩ : Addr).add 4) (.int .i64 r.2.2.2.2.1) fun w5 => St w5 ((⟨b, 0, none⟩ : Addr).add 5) (.int .i64 r.2.2.2.2.2) fun w6 => K w6 := by
  have H := Hx.one (F := (· = b)) h
  refine H.st 0 rfl (by simp) (.inl rfl) fun _ H => H.st 0 rfl (by simp) (.inl rfl) fun _ H => H.st 0 rfl (by simp) (.inl rfl) fun _ H => H.st 0 rfl (by simp) (.inl rfl) fun _ H => H.st 0 rfl (by simp) (.inl rfl) fun _ H => H.st 0 rfl (by simp) (.inl rfl) fun _ H => ?_
  exact k _ H.ext (H.get 0 rfl)
theorem mk_mx (w : World) (r : Mx) {K : World → Prop} (k : ∀ w2, Ext (fun _ => False) w w2 → Blk w2 w.heap.size (mrow r).toArray TM → K w2) :
    Nw w (.cells #[.int .i64 0, .int .i64 0, .int .i64 0, .int .i64 0, .int .i64 0, .int .i64 0] TM) fun w0 =>
    St w0 (⟨w.heap.size, 0, none⟩ : Addr) (.int .i64 r.1) fun w1 => St w1 ((⟨w.heap.size, 0, none⟩ : Addr).add 1) (.int .i64 r.2.1) fun w2 => St w2 ((⟨w.heap.size, 0, none⟩ : Addr).add 2) (.int .i64 r.2.2.1) fun w3 =>
      St w3 ((⟨w.heap.size, 0, none⟩ : Addr).add 3) (.int .i64 r.2.2.2.1) fun w4 => St w4 ((⟨w.heap.size, 0, none⟩ : Addr).add 4) (.int .i64 r.2.2.2.2.1) fun w5 => St w5 ((⟨w.heap.size, 0, none⟩ : Addr).add 5) (.int .i64 r.2.2.2.2.2) fun w6 => K w6 := by
  refine (Hn.start w).nw fun w1 H => ?_
  exact st_mx (m := noM) (H.get 0 rfl) r fun w2 e hb => k w2 (ext_new H.ext e fun j hj => Nat.le_of_eq hj.symm) hb
/-- A turn in its block. -/
structure TS (w0 w : World) (b : Nat) (m : Mc) (g : GT) (x : FT) (o : OpT) (ns : Slc) (gl : List GlT) (gs : Slc) : Prop where
  blk : Blk w b (tcl m g x o ns gs).toArray TU
  ge : w0.heap.size ≤ b
  ext : Ext (fun _ => False) w0 w
  row : Row w gs 70 9 (gl.flatMap glc)
  own : ∀ j, gs.own j → b < j
section
variable {w0 w w' : World} {b : Nat} {m : Mc} {g : GT} {x : FT} {o : OpT} {ns gs : Slc} {gl : List GlT} {f : Font}
theorem TS.keep (T : TS w0 w b m g x o ns gl gs) (e : Ext (fun _ => False) w w') : TS w0 w' b m g x o ns gl gs := ⟨e.blk T.blk id, T.ge, T.ext.tr e, T.row.keep e fun _ _ h => h, T.own⟩
theorem TS.upd {m' : Mc} {g' : GT} (T : TS w0 w b m g x o ns gl gs) (hb : Blk w' b (tcl m' g' x o ns gs).toArray TU) (e : Ext (· = b) w w') : TS w0 w' b m' g' x o ns gl gs :=
  ⟨hb, T.ge, ext_new T.ext e fun j hj => by rw [hj]; exact T.ge, T.row.keep e fun j hj h => by have := T.own j hj; omega, T.own⟩
theorem TS.line (T : TS w0 w b m g x o ns gl gs) (r : Mx) {K : World → Prop} (k : ∀ w2, TS w0 w2 b ⟨m.on, m.text, r⟩ g x o ns gl gs → Ext (· = b) w w2 → K w2) :
    Sh.St w (⟨b, 7, none⟩ : Addr) (.int .i64 r.1) fun w1 => Sh.St w1 (⟨b, 8, none⟩ : Addr) (.int .i64 r.2.1) fun w2 => Sh.St w2 (⟨b, 9, none⟩ : Addr) (.int .i64 r.2.2.1) fun w3 =>
      Sh.St w3 (⟨b, 10, none⟩ : Addr) (.int .i64 r.2.2.2.1) fun w4 => Sh.St w4 (⟨b, 11, none⟩ : Addr) (.int .i64 r.2.2.2.2.1) fun w5 => Sh.St w5 (⟨b, 12, none⟩ : Addr) (.int .i64 r.2.2.2.2.2) fun w6 => K w6 :=
  st_mat (o := 7) r (pre := (tcl m g x o ns gs).take 7) (zs := mrow m.line) (post := (tcl m g x o ns gs).drop 13) T.blk rfl rfl fun w2 hb e => k w2 (T.upd hb e) e
theorem TS.text (T : TS w0 w b m g x o ns gl gs) (r : Mx) {K : World → Prop} (k : ∀ w2, TS w0 w2 b ⟨m.on, r, m.line⟩ g x o ns gl gs → Ext (· = b) w w2 → K w2) :
    Sh.St w (⟨b, 1, none⟩ : Addr) (.int .i64 r.1) fun w1 => Sh.St w1 (⟨b, 2, none⟩ : Addr) (.int .i64 r.2.1) fun w2 => Sh.St w2 (⟨b, 3, none⟩ : Addr) (.int .i64 r.2.2.1) fun w3 =>
      Sh.St w3 (⟨b, 4, none⟩ : Addr) (.int .i64 r.2.2.2.1) fun w4 => Sh.St w4 (⟨b, 5, none⟩ : Addr) (.int .i64 r.2.2.2.2.1) fun w5 => Sh.St w5 (⟨b, 6, none⟩ : Addr) (.int .i64 r.2.2.2.2.2) fun w6 => K w6 :=
  st_mat (o := 1) r (pre := (tcl m g x o ns gs).take 1) (zs := mrow m.text) (post := (tcl m g x o ns gs).drop 7) T.blk rfl rfl fun w2 hb e => k w2 (T.upd hb e) e
theorem c_tmove (T : TS w0 w b m g x o ns gl gs) (a c : Int) : C77 (some (⟨b, 0, none⟩ : Addr)) a c w (fun w1 => ∃ l, moveF m.line a c = some l ∧ TS w0 w1 b ⟨m.on, l, l⟩ g x o ns gl gs)
    fun v w1 => v = Sw.gup 2 ∧ moveF m.line a c = none ∧ Ext (fun _ => False) w0 w1 := by
  refine T77 _ _ _ _ _ _ ?_
  unfold S77
  have TD := T.keep (Ext.refl (fun _ => False) w).drew
  have cl : ∀ {j : Nat} {v : Value}, (tcl m g x o ns gs)[j]? = some v → w.drew.cell? ⟨b, j, none⟩ = some v := fun {j v} hj => by
    rw [TD.blk.cell, List.getElem?_toArray]
    exact hj
  refine ⟨Ext (fun _ => False) w.drew, Ext.refl _ _, Nn.of ?_⟩
  refine ldS_ext (x := m.line.1) (cl rfl) (ldS_ext (x := m.line.2.1) (cl rfl) (ldS_ext (x := m.line.2.2.1) (cl rfl) (ldS_ext (x := m.line.2.2.2.1) (cl rfl) (ldS_ext (x := m.line.2.2.2.2.1) (cl rfl) (ldS_ext (x := m.line.2.2.2.2.2) (cl rfl) ?_)))))
  refine (c_move a c _).mono ?_
  rintro mv w13 ⟨rfl, e13⟩
  refine ⟨e13, (Mat.c_mul (moveM a c) m.line _).mono ?_⟩
  rintro l e w16 ⟨hl, e16⟩
  have E16 := e13.tr e16
  refine (Sw.c_mustM l e _).mono (fun r w18 h18 => ?_) fun v w18 h18 => ?_
  case refine_2 =>
    obtain ⟨hn, rfl⟩ := resM_no hl h18.2.1
    exact ⟨h18.1, hn, TD.ext.tr (E16.tr h18.2.2)⟩
  obtain ⟨rfl, rfl, e18⟩ := h18
  have hl := resM_yes hl
  have T2 := TD.keep (E16.tr e18)
  refine Nn.of (T2.line r fun w25 T3 _ => Nn.of ?_)
  have hb := T3.blk
  refine Ld.of hb (x := r.1) rfl (Ld.of hb (x := r.2.1) rfl (Ld.of hb (x := r.2.2.1) rfl (Ld.of hb (x := r.2.2.2.1) rfl (Ld.of hb (x := r.2.2.2.2.1) rfl (Ld.of hb (x := r.2.2.2.2.2) rfl ?_)))))
  exact Nn.of (T3.text r fun w39 T4 _ => ⟨r, hl, T4⟩)
theorem useG_lead (h : useG g = true) : inW (tlead g) = true := by
  unfold useG texts at h
  simp only [Bool.and_eq_true, List.all_cons, List.all_nil] at h
  exact h.2.2.2.2.1
theorem c_tnext (T : TS w0 w b m g x o ns gl gs) : C78 (some (⟨b, 0, none⟩ : Addr)) w (fun w1 => ∃ l, nextF g m.line = some l ∧ TS w0 w1 b ⟨m.on, l, l⟩ g x o ns gl gs)
    fun v w1 => v = Sw.gup 2 ∧ nextF g m.line = none ∧ Ext (fun _ => False) w0 w1 := by
  refine T78 _ _ _ _ ?_
  unfold S78
  refine Nn.of (LdT.blk (ts := LiA30) (pre := (tcl m g x o ns gs).take 13) (post := (tcl m g x o ns gs).drop 43) (t := TU) (x := g) T.blk rfl ?_)
  unfold nextF
  refine (c_use g _).mono (fun w4 h4 => ?_) fun v w4 h4 => ⟨h4.1, by rw [if_neg (by rw [h4.2.1]; decide)], T.ext.tr h4.2.2⟩
  obtain ⟨hg, e4⟩ := h4
  have T2 := T.keep e4
  refine Nn.of (Ld.of T2.blk (x := tlead g) rfl ?_)
  have hw := inW_spec.1 (useG_lead hg)
  rw [i64_id (n := 0 - tlead g) (by omega), if_pos hg, Int.zero_sub]
  exact (c_tmove T2 0 (-(tlead g))).mono (fun w1 h => h) fun v w1 h => h
def six (n : List Int) : Mx := (n.getD 0 0, n.getD 1 0, n.getD 2 0, n.getD 3 0, n.getD 4 0, n.getD 5 0)
theorem c_tset (T : TS w0 w b m g x o ns gl gs) {n : List Int} (hn : IV w0 ns n) (h6 : n.length = 6) : C79 (some (⟨b, 0, none⟩ : Addr)) w (fun w1 => Mat.okM (six n) = true ∧ TS w0 w1 b ⟨m.on, six n, six n⟩ g x o ns gl gs)
    fun v w1 => v = Sw.gup 2 ∧ Mat.okM (six n) = false ∧ Ext (fun _ => False) w0 w1 := by
  refine T79 _ _ _ _ ?_
  unfold S79
  refine Nn.of (Ld.of T.blk (x := ns) rfl ?_)
  have TD := T.keep (Ext.refl (fun _ => False) w).drew
  have hD := hn.keep TD.ext
  obtain ⟨a, ha, _⟩ := hD.get (i := 0) (by omega)
  have hc : ∀ i, i < 6 → w.drew.cell? (a.add (i * 1)) = some (.int .i64 (n.getD i 0)) := fun i hi => by
    obtain ⟨a', ha', hc⟩ := hD.get (i := i) (by omega)
    rw [ha] at ha'
    cases ha'
    exact hc
  rw [ha, hD.1, h6]
  refine ⟨Ext (fun _ => False) w.drew, Ext.refl _ _, ?_⟩
  refine ⟨by decide, by decide, Nn.of (ldS_ext (x := n.getD 0 0) (hc 0 (by decide)) ?_)⟩
  refine ⟨by decide, by decide, Nn.of (ldS_ext (x := n.getD 1 0) (hc 1 (by decide)) ?_)⟩
  refine ⟨by decide, by decide, Nn.of (ldS_ext (x := n.getD 2 0) (hc 2 (by decide)) ?_)⟩
  refine ⟨by decide, by decide, Nn.of (ldS_ext (x := n.getD 3 0) (hc 3 (by decide)) ?_)⟩
  refine ⟨by decide, by decide, Nn.of (ldS_ext (x := n.getD 4 0) (hc 4 (by decide)) ?_)⟩
  refine ⟨by decide, by decide, Nn.of (ldS_ext (x := n.getD 5 0) (hc 5 (by decide)) ?_)⟩
  refine (Hn.start w.drew).nw fun w17 H => ⟨H.ext, ?_⟩
  have h00 : w.drew.heap.size < w17.heap.size := H.lt 0 rfl
  simp only [List.nil_append, List.cons_append, List.set_cons_zero, List.set_cons_succ, Nat.zero_add] at H
  iterate 6 (refine H.st 0 rfl (by simp) fun _ H => ?_; simp only [List.nil_append, List.cons_append, List.set_cons_zero, List.set_cons_succ, Nat.zero_add] at H)
  rename_i wq
  have H := H.drew
  have E1 := H.ext
  have hbm : Blk wq.drew w.drew.heap.size (mrow (six n)).toArray TM := H.get 0 rfl
  have cl : ∀ {j : Nat} {v : Value}, (mrow (six n))[j]? = some v → wq.drew.cell? ⟨w.drew.heap.size, j, none⟩ = some v := fun {j v} hj => by
    rw [hbm.cell, List.getElem?_toArray]
    exact hj
  have TQ := TD.keep E1
  refine ⟨Ext (fun _ => False) wq.drew, Ext.refl _ _, ?_⟩
  refine ldS_ext (cl rfl) (ldS_ext (cl rfl) (ldS_ext (cl rfl) (ldS_ext (cl rfl) (ldS_ext (cl rfl) (ldS_ext (cl rfl) ?_)))))
  refine ldS_ext (cl rfl) (ldS_ext (cl rfl) (ldS_ext (cl rfl) (ldS_ext (cl rfl) (ldS_ext (cl rfl) (ldS_ext (cl rfl) ?_)))))
  refine (Mat.c_check (six n) _).mono ?_
  rintro r w38 ⟨rfl, e38⟩
  refine ⟨e38, (Sw.c_mustM (six n) _ _).mono (fun r w40 h40 => ?_) fun v w40 h40 => ?_⟩
  case refine_2 =>
    obtain ⟨rfl, h0, e40⟩ := h40
    have hm : Mat.okM (six n) = false := by
      cases hm : Mat.okM (six n) with
      | false => rfl
      | true => rw [hm] at h0; exact absurd rfl h0
    exact ⟨by rw [hm]; rfl, hm, TQ.ext.tr (e38.tr e40)⟩
  obtain ⟨_, h0, e40⟩ := h40
  have hm : Mat.okM (six n) = true := by
    cases hm : Mat.okM (six n) with
    | true => rfl
    | false => rw [hm] at h0; cases h0
  have E40 := (e38.tr e40).drew
  have T40 := TQ.keep E40
  have hb40 := E40.blk hbm id
  have hne : ¬ w.drew.heap.size = b := fun e => by
    have h1 := TD.blk.lt
    omega
  refine ⟨fun w' => Blk w' w.drew.heap.size (mrow (six n)).toArray TM, hb40, ?_⟩
  have cs : ∀ {j : Nat} {v : Value}, (mrow (six n))[j]? = some v → ∀ w' : World, Blk w' w.drew.heap.size (mrow (six n)).toArray TM → w'.cell? ⟨w.drew.heap.size, j, none⟩ = some v := fun {j v} hj w' hw => by
    rw [hw.cell, List.getElem?_toArray]
    exact hj
  refine ldS_mk (x := n.getD 0 0) (cs rfl) (ldS_mk (x := n.getD 1 0) (cs rfl) (ldS_mk (x := n.getD 2 0) (cs rfl) (ldS_mk (x := n.getD 3 0) (cs rfl) (ldS_mk (x := n.getD 4 0) (cs rfl) (ldS_mk (x := n.getD 5 0) (cs rfl) ?_)))))
  refine ldS_mk (x := n.getD 0 0) (cs rfl) (ldS_mk (x := n.getD 1 0) (cs rfl) (ldS_mk (x := n.getD 2 0) (cs rfl) (ldS_mk (x := n.getD 3 0) (cs rfl) (ldS_mk (x := n.getD 4 0) (cs rfl) (ldS_mk (x := n.getD 5 0) (cs rfl) ?_)))))
  refine Nn.of (T40.text (six n) fun w60 T60 e60 => ⟨e60.blk hb40 hne, Nn.of (T60.line (six n) fun w67 T67 _ => ⟨hm, T67⟩)⟩)
end
end Ma
end Go.Proofs.YtcblpehnkogfdaaGreatDoor
/- Text machines: a turn shows a string. Conditions: sizes, the laid tables. -/
namespace Go.Proofs.YtcblpehnkogfdaaGreatDoor
namespace Ma
open Sh Mat Fix Fo Sw Opr Pat
set_option linter.unusedVariables false
set_option linter.unusedSimpArgs false
set_option maxRecDepth 8000
set_option maxHeartbeats 4000000
theorem st_one {w : World} {b o : Nat} {t : TypeId} {K : World → Prop} {cs : List Value} {v : Value} (h : Blk w b cs.toArray t) (ho : o < cs.length) (k : ∀ w2, Blk w2 b (cs.set o v).toArray t → Ext (· = b) w w2 → K w2) : Sh.St w (⟨b, o, none⟩ : Addr) v K := by
  have H := Hx.one (F := (· = b)) h
  exact H.st 0 rfl (by simpa using ho) (.inl rfl) fun w2 H => k w2 (by have := H.get 0 rfl; simpa using this) H.ext
attribute [local irreducible] Ld Sh.St Nw Nn Lt LdS
section
variable {w0 w w' : World} {b : Nat} {m : Mc} {g : GT} {x : FT} {o : OpT} {ns gs : Slc} {gl : List GlT} {f : Font}
theorem showP_most {L : List GlT} {m' : Mx} {s : ByteArray} {tm : Mx} (h : askE g tm f s = 0) (hs : showP g f (codesF f.wide s).1 tm = some (L, m')) : L.length ≤ 16384 := by
  have h1 := showP_len _ hs
  have h2 := (ask_parts h).2.2.2.2
  omega
/-- Behind the text: the glyphs are put behind those so far. -/
theorem tshow_end (T : TS w0 w b m g x o ns gl gs) (hgl : gl.length ≤ 16384) {s : ByteArray} {mb : Nat} {L : List GlT} {m2 : Mx} {r : Slc} (hF : stringF g m.text f s = (L, m2, 0)) (hL : L.length ≤ 16384) (hv : VRow w r 9 (L.flatMap glc)) (hb : Blk w mb (mrow m2).toArray TM) (hlt : b < mb) (hmg : ∀ j, gs.own j → j ≠ mb) :
    Nn (some (⟨b, 0, none⟩ : Addr)) fun a53 => Ld w (a53.add 54) Slc.v fun (x54 : Slc) =>
      C39 (decide ((IntKind.i64.wrap (((x54.len : Nat) : Int) + ((r.len : Nat) : Int))) ≤ 16384)) 6 w (fun vw55 =>
        Nn (some (⟨b, 0, none⟩ : Addr)) fun a56 =>
        Ld vw55 (a56.add 54) Slc.v fun (x57 : Slc) =>
        Rn Tryz.prog (Builtin.append_ #[49, 49] 49 #[Slc.v x57, Slc.v r]) vw55 Slc.v fun (x58 : Slc) vw59 =>
        Nn (some (⟨b, 0, none⟩ : Addr)) fun a60 =>
        Sh.St vw59 (a60.add 54) (Slc.v x58) fun vw61 =>
        Ld vw61 (⟨mb, 0, none⟩ : Addr) (Value.int .i64) fun (x62 : Int) =>
        Ld vw61 ((⟨mb, 0, none⟩ : Addr).add 1) (Value.int .i64) fun (x63 : Int) =>
        Ld vw61 ((⟨mb, 0, none⟩ : Addr).add 2) (Value.int .i64) fun (x64 : Int) =>
        Ld vw61 ((⟨mb, 0, none⟩ : Addr).add 3) (Value.int .i64) fun (x65 : Int) =>
        Ld vw61 ((⟨mb, 0, none⟩ : Addr).add 4) (Value.int .i64) fun (x66 : Int) =>
        Ld vw61 ((⟨mb, 0, none⟩ : Addr).add 5) (Value.int .i64) fun (x67 : Int) =>
        Nn (some (⟨b, 0, none⟩ : Addr)) fun a68 =>
        Sh.St vw61 (a68.add 1) (.int .i64 x62) fun vw69 =>
        Sh.St vw69 ((a68.add 1).add 1) (.int .i64 x63) fun vw70 =>
        Sh.St vw70 ((a68.add 1).add 2) (.int .i64 x64) fun vw71 =>
        Sh.St vw71 ((a68.add 1).add 3) (.int .i64 x65) fun vw72 =>
        Sh.St vw72 ((a68.add 1).add 4) (.int .i64 x66) fun vw73 =>
        Sh.St vw73 ((a68.add 1).add 5) (.int .i64 x67) fun vw74 =>
        ∃ gs' gl' mt, showF g f m.text gl s = (0, gl', mt) ∧ gl'.length ≤ 16384 ∧ TS w0 vw74 b ⟨m.on, mt, m.line⟩ g x o ns gl' gs') fun v w1 => ∃ e, v = Sw.gup e ∧ e ≠ 0 ∧ (showF g f m.text gl s).1 = e ∧ Ext (fun _ => False) w0 w1 := by
  have n1 := VRow.count glc_len (by decide) (Row.view T.row)
  have n2 := VRow.count glc_len (by decide) hv
  refine Nn.of (Ld.of T.blk (x := gs) rfl ?_)
  rw [n1, n2, i64_id (by omega)]
  refine (Sw.c_need _ _ _).mono (fun w55 h55 => ?_) fun v w55 h55 => ?_
  case refine_2 =>
    obtain ⟨rfl, hk, rfl⟩ := h55
    rw [decide_eq_false_iff_not] at hk
    refine ⟨6, rfl, by decide, ?_, T.ext⟩
    unfold showF
    rw [hF, if_neg (by simp), if_pos (by show 16384 < gl.length + L.length; omega)]
  obtain ⟨hk, rfl⟩ := h55
  rw [decide_eq_true_eq] at hk
  refine Nn.of (Ld.of T.blk (x := gs) rfl ?_)
  obtain ⟨s', w', hrun, hrow, hlen', hext, hown⟩ := elGl.app (ty := 49) T.row hv (fun v hv => by
    obtain ⟨y, _, hx⟩ := List.mem_flatMap.1 hv
    exact glc_one y v hx) (by omega) (by omega)
  refine ⟨s', w', hrun, Nn.of ?_⟩
  have hbk := hext.blk T.blk fun hj => by have := T.own b hj; omega
  have hbm := hext.blk hb fun hj => hmg mb hj rfl
  have own2 : ∀ j, s'.own j → b < j := fun j hj => by
    rcases hown j hj with h1 | h1
    · exact T.own j h1
    · have := T.blk.lt
      omega
  have mlt := hb.lt
  have own3 : ∀ j, s'.own j → j ≠ mb := fun j hj => by
    rcases hown j hj with h1 | h1
    · exact hmg j h1
    · omega
  have E1 : Ext (fun _ => False) w0 w' := ext_new T.ext hext fun j hj => by
    have := T.own j hj
    have := T.ge
    omega
  refine st_one (o := 54) hbk (by simp) fun w61 hb61 e61 => ?_
  have hb61 : Blk w61 b (tcl m g x o ns s').toArray TU := hb61
  have T61 : TS w0 w61 b m g x o ns (gl ++ L) s' := ⟨hb61, T.ge, ext_new E1 e61 fun j hj => by rw [hj]; exact T.ge, (show Row w' s' _ 9 ((gl ++ L).flatMap glc) by rw [List.flatMap_append]; exact hrow).keep e61 fun j hj e => by
    have := own2 j hj
    have e : j = b := e
    omega, own2⟩
  have hbm2 := e61.blk hbm fun e => by
    have e : mb = b := e
    omega
  refine Ld.of hbm2 (x := m2.1) rfl (Ld.of hbm2 (x := m2.2.1) rfl (Ld.of hbm2 (x := m2.2.2.1) rfl (Ld.of hbm2 (x := m2.2.2.2.1) rfl (Ld.of hbm2 (x := m2.2.2.2.2.1) rfl (Ld.of hbm2 (x := m2.2.2.2.2.2) rfl ?_)))))
  refine Nn.of (T61.text m2 fun w74 T74 _ => ⟨s', gl ++ L, m2, ?_, by rw [List.length_append]; omega, T74⟩)
  unfold showF
  rw [hF, if_neg (by simp), if_neg (by show ¬ 16384 < gl.length + L.length; omega)]
theorem c_tshow (T : TS w0 w b m g x o ns gl gs) (hT : TB w0) (h : FoV w0 x f) (hgl : gl.length ≤ 16384) {s : ByteArray} (hs : s.size ≤ 1048576) :
    C80 (some (⟨b, 0, none⟩ : Addr)) s w (fun w1 => ∃ gs' gl' mt, showF g f m.text gl s = (0, gl', mt) ∧ gl'.length ≤ 16384 ∧ TS w0 w1 b ⟨m.on, mt, m.line⟩ g x o ns gl' gs')
      fun v w1 => ∃ e, v = Sw.gup e ∧ e ≠ 0 ∧ (showF g f m.text gl s).1 = e ∧ Ext (fun _ => False) w0 w1 := by
  refine T80 _ _ _ _ _ ?_
  unfold S80
  have TD := T.keep (Ext.refl (fun _ => False) w).drew
  have cl : ∀ {j : Nat} {v : Value}, (tcl m g x o ns gs)[j]? = some v → w.drew.cell? ⟨b, j, none⟩ = some v := fun {j v} hj => by
    rw [TD.blk.cell, List.getElem?_toArray]
    exact hj
  have no : ∀ {e : Int}, e ≠ 0 → stringF g m.text f s = ([], noM, e) → (showF g f m.text gl s).1 = e := fun {e} he hF => by
    unfold showF
    rw [hF, if_pos he]
  refine ⟨Ext (fun _ => False) w.drew, Ext.refl _ _, Nn.of ?_⟩
  refine LdST.blk (ts := LiA83) (pre := (tcl m g x o ns gs).take 13) (post := (tcl m g x o ns gs).drop 50) (t := TU) (x := hand g x) (fun w' hw => hw.blk TD.blk id) rfl (Nn.of ?_)
  refine ldS_ext (x := m.text.1) (cl rfl) (ldS_ext (x := m.text.2.1) (cl rfl) (ldS_ext (x := m.text.2.2.1) (cl rfl) (ldS_ext (x := m.text.2.2.2.1) (cl rfl) (ldS_ext (x := m.text.2.2.2.2.1) (cl rfl) (ldS_ext (x := m.text.2.2.2.2.2) (cl rfl) ?_)))))
  refine ⟨?_, (Hn.start w.drew).nw fun w75 Q => ⟨Q.ext, ?_⟩⟩
  · refine (c_text (g := g) (hT.keep TD.ext) (h.keep TD.ext) m.text hs).mono (fun r m2 w45 h45 => ?_) fun v w45 h45 => ?_
    · obtain ⟨hask, e45, L, hsp, hv, ho⟩ := h45
      refine mk_mx w45 m2 fun w52 e52 hb52 => ?_
      have T2 := TD.keep (e45.tr e52)
      refine tshow_end T2 hgl (string_of hask hsp) (showP_most hask hsp) (hv.keep e52) hb52 ?_ fun j hj e => ?_
      · have h1 := TD.blk.lt
        have h2 := e45.size
        omega
      · have h1 := TD.row.own_lt hj
        have h2 := e45.size
        omega
    · obtain ⟨e, rfl, he, hF, e45⟩ := h45
      exact ⟨e, rfl, he, no he hF, TD.ext.tr e45⟩
  · have TQ := TD.keep Q.ext
    refine (c_text (g := g) (hT.keep TQ.ext) (h.keep TQ.ext) m.text hs).mono (fun r m2 w78 h78 => ?_) fun v w78 h78 => ?_
    · obtain ⟨hask, e78, L, hsp, hv, ho⟩ := h78
      have Q2 := Q.keep e78
      have hql := Q.lt 0 rfl
      refine st_mx (m := noM) (Q2.get 0 rfl) m2 fun w84 e84 hb84 => ?_
      have EE : Ext (fun _ => False) w.drew w84 := ext_new Q2.ext e84 fun j hj => Nat.le_of_eq hj.symm
      have T2 := TD.keep EE
      refine tshow_end T2 hgl (string_of hask hsp) (showP_most hask hsp) (hv.keepF e84 fun j hj e => ?_) hb84 TD.blk.lt fun j hj e => ?_
      · have h1 := ho j hj
        have e : j = w.drew.heap.size := e
        omega
      · have h1 := TD.row.own_lt hj
        omega
    · obtain ⟨e, rfl, he, hF, e78⟩ := h78
      exact ⟨e, rfl, he, no he hF, TQ.ext.tr e78⟩
end
end Ma
end Go.Proofs.YtcblpehnkogfdaaGreatDoor

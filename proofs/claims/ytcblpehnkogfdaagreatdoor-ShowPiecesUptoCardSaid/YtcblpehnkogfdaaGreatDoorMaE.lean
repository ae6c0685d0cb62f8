/- Text machines: a turn shows an array. Conditions: sizes, the laid tables. -/
import Derived.Test.YtcblpehnkogfdaaGreatDoorMaC
namespace Go.Proofs.YtcblpehnkogfdaaGreatDoor
namespace Ma
open Sh Mat Fix Fo Sw Opr Pat
set_option linter.unusedVariables false
set_option linter.unusedSimpArgs false
set_option maxRecDepth 8000
set_option maxHeartbeats 4000000
theorem td3 (n : Int) : 1000 * Int.tdiv n 1000 + Int.tmod n 1000 = n ∧ -1000 < Int.tmod n 1000 ∧ Int.tmod n 1000 < 1000 ∧ (0 ≤ n → 0 ≤ Int.tmod n 1000) ∧ (n ≤ 0 → Int.tmod n 1000 ≤ 0) := by
  rcases Int.le_total 0 n with h | h
  · rw [tdiv_id h, tmod_id h]; omega
  · obtain ⟨m, rfl⟩ : ∃ m, n = -m := ⟨-n, by omega⟩
    rw [Int.neg_tdiv, Int.neg_tmod, tdiv_id (by omega), tmod_id (by omega)]; omega
theorem near3_eq {n : Int} (hn : -5000000000000000000 ≤ n ∧ n ≤ 5000000000000000000) : (if Int.tmod n 1000 < 0 then (if Int.tmod n 1000 + 1000 ≥ 1000 - (Int.tmod n 1000 + 1000) then Int.tdiv n 1000 - 1 + 1 else Int.tdiv n 1000 - 1) else if Int.tmod n 1000 ≥ 1000 - Int.tmod n 1000 then Int.tdiv n 1000 + 1 else Int.tdiv n 1000) = near3 n := by
  unfold near3
  have := td3 n
  split
  · split <;> omega
  · split <;> omega
theorem c_near3 {n : Int} (hn : -5000000000000000000 ≤ n ∧ n ≤ 5000000000000000000) (w : World) : C104 n 1000 w fun r w1 => r = near3 n ∧ Ext (fun _ => False) w w1 := by
  refine T104 _ _ _ _ ?_
  unfold S104
  have he : Ext (fun _ => False) w w.drew := (Ext.refl _ w).drew
  have e := near3_eq hn
  have := td3 n
  refine ⟨by omega, by omega, Br.dec (fun h => ?_) fun h => ?_⟩
  · rw [if_pos h] at e
    rw [i64_id (n := Int.tmod n 1000 + 1000) (by omega), i64_id (n := 1000 - (Int.tmod n 1000 + 1000)) (by omega), i64_id (n := Int.tdiv n 1000) (by omega), i64_id (n := Int.tdiv n 1000 - 1) (by omega), i64_id (n := Int.tdiv n 1000 - 1 + 1) (by omega)]
    refine Lt.of (Br.dec (fun h2 => ⟨?_, he⟩) fun h2 => ⟨?_, he⟩)
    · rw [if_pos h2] at e; exact e
    · rw [if_neg h2] at e; exact e
  · rw [if_neg h] at e
    rw [i64_id (n := 1000 - Int.tmod n 1000) (by omega), i64_id (n := Int.tdiv n 1000) (by omega), i64_id (n := Int.tdiv n 1000 + 1) (by omega)]
    refine Br.dec (fun h2 => ⟨?_, he⟩) fun h2 => ⟨?_, he⟩
    · rw [if_pos h2] at e; exact e
    · rw [if_neg h2] at e; exact e
theorem c_Near3 {n : Int} (hn : -4611686018427387904 ≤ n ∧ n ≤ 4611686018427387904) (w : World) : C100 n 1000 w fun r e w1 => r = near3 n ∧ e = 0 ∧ Ext (fun _ => False) w w1 := by
  refine T100 _ _ _ _ ?_
  unfold S100
  refine Br.f (by decide) (Br.dec (fun h => absurd h (by omega)) fun _ => Br.dec (fun h => absurd h (by omega)) fun _ => (c_near3 (by omega) w).mono ?_)
  rintro r w1 ⟨rfl, he⟩
  exact ⟨rfl, rfl, he⟩
theorem numV_in {o : Ob} {n : Int} (h : numV o = some n) : -1073741824 ≤ n ∧ n ≤ 1073741824 := by
  unfold numV at h
  split at h
  · split at h
    · cases h; omega
    · cases h
  · split at h
    · split at h
      · rename_i h3
        cases h
        exact inW_spec.1 h3
      · cases h
    · cases h
theorem scaledP_in {g : GT} {n t : Int} (h : scaledP g n = some t) : inW t = true := by
  unfold scaledP at h
  split at h
  · rename_i h1
    cases h
    exact h1
  · cases h
theorem rowF_step {g : GT} {f : Font} {o : Ob} {K : List Ob} {text mt : Mx} {gl gl' : List GlT} (h : kidF g f text gl o = (0, gl', mt)) : rowF g f (o :: K) text gl = rowF g f K mt gl' := by
  conv => lhs; unfold rowF
  rw [h, if_neg (by simp)]
theorem rowF_stop {g : GT} {f : Font} {o : Ob} {K : List Ob} {text : Mx} {gl : List GlT} {e : Int} (h : (kidF g f text gl o).1 = e) (he : e ≠ 0) : (rowF g f (o :: K) text gl).1 = e := by
  unfold rowF
  rw [h, if_pos he]
attribute [local irreducible] Ld Sh.St Nw Nn Lt LdS
section
variable {w0 w w' : World} {b : Nat} {m : Mc} {g : GT} {x : FT} {o : OpT} {ns gs ks : Slc} {gl : List GlT} {f : Font} {K : List Ob}
theorem c_tkids (T : TS w0 w b m g x o ns gl gs) (hT : TB w0) (h : FoV w0 x f) (hgl : gl.length ≤ 16384) (hK : OV w0 ks K) (hKl : K.length ≤ 9223372036854775807) (hok : K.all kidOk = true) (hks : ∀ k ∈ K, k.2.2.2.1.size ≤ 1048576) :
    Lp (σ := Int) (S81L1 (some (⟨b, 0, none⟩ : Addr)) ks (fun w1 => ∃ gs' gl' mt, rowF g f K m.text gl = (0, gl', mt) ∧ TS w0 w1 b ⟨m.on, mt, m.line⟩ g x o ns gl' gs') fun v w1 => ∃ e, v = Sw.gup e ∧ e ≠ 0 ∧ (rowF g f K m.text gl).1 = e ∧ Ext (fun _ => False) w0 w1) 0 w := by
  refine ⟨fun n st w1 => ∃ (i : Nat) (gs' : Slc) (gl' : List GlT) (mt : Mx), st = (i : Int) ∧ i ≤ K.length ∧ n = K.length - i ∧ rowF g f K m.text gl = rowF g f (K.drop i) mt gl' ∧ gl'.length ≤ 16384 ∧ TS w0 w1 b ⟨m.on, mt, m.line⟩ g x o ns gl' gs', K.length, ⟨0, gs, gl, m.text, rfl, Nat.zero_le _, rfl, by rw [List.drop_zero], hgl, T⟩, ?_⟩
  rintro n st w1 ⟨i, gs', gl', mt, rfl, hi, rfl, hrw, hgl', T⟩
  unfold S81L1
  rw [hK.1]
  refine Br.dec (fun q => ⟨by omega, by omega, ?_⟩) fun q => ?_
  · have hil : i < K.length := by omega
    have hdr : K.drop i = K[i] :: K.drop (i + 1) := List.drop_eq_getElem_cons hil
    rw [hrw, hdr]
    have hkk : kidOk K[i] = true := List.all_eq_true.1 hok _ (List.getElem_mem hil)
    have hsz := hks _ (List.getElem_mem hil)
    obtain ⟨a, ha, c0, c1, c2, c3, c4, c5⟩ := (hK.keep T.ext).get (List.getElem?_eq_getElem hil)
    rw [ha, Int.toNat_natCast]
    generalize hk : K[i] = k at *
    refine Nn.of (Ld.mk c0 (Ld.mk c1 (Ld.mk c2 (Ld.mk c3 (Ld.mk c4 (Ld.mk c5 ?_))))))
    have H := Hn.start w1
    refine H.nw fun w74 H => ?_
    simp only [List.nil_append, List.cons_append, List.set_cons_zero, List.set_cons_succ, Nat.zero_add] at H
    iterate 6 (refine H.st 0 rfl (by simp) fun _ H => ?_; simp only [List.nil_append, List.cons_append, List.set_cons_zero, List.set_cons_succ, Nat.zero_add] at H)
    have T := T.keep H.ext
    have hw : IntKind.i64.wrap ((i : Int) + 1) = ((i + 1 : Nat) : Int) := by rw [i64_id (by omega)]; rfl
    rw [hw]
    refine H.ld 0 rfl (x := k.1) rfl (Br.eq (fun q4 => ?_) fun q4 => ?_)
    · refine H.ld 0 rfl (x := k.2.2.2.1) rfl ?_
      refine (c_tshow T hT h hgl' hsz).mono (fun w86 h86 => ?_) fun v w86 h86 => ?_
      · obtain ⟨gs2, gl2, mt2, hF, hl2, T2⟩ := h86
        have hkf : kidF g f mt gl' k = (0, gl2, mt2) := by
          unfold kidF
          rw [if_pos q4]
          exact hF
        exact ⟨K.length - (i + 1), by omega, i + 1, gs2, gl2, mt2, rfl, by omega, rfl, rowF_step hkf, hl2, T2⟩
      · obtain ⟨e, rfl, he, hF, e86⟩ := h86
        refine ⟨e, rfl, he, rowF_stop (by unfold kidF; rw [if_pos q4]; exact hF) he, e86⟩
    · obtain ⟨nv, hnv⟩ : ∃ nv, numV k = some nv := by
        unfold kidOk at hkk
        rw [decide_eq_false q4, Bool.or_false] at hkk
        exact Option.isSome_iff_exists.1 hkk
      have hin := numV_in hnv
      have hkf : kidF g f mt gl' k = match backF g mt nv with
          | some m => (0, gl', m)
          | none => (2, gl', mt) := by
        unfold kidF
        rw [if_neg q4, hnv]
        rfl
      have bad : ∀ w2, backF g mt nv = none → Ext (fun _ => False) w0 w2 → ∃ e, Sw.gup 2 = Sw.gup e ∧ e ≠ 0 ∧ (rowF g f (k :: K.drop (i + 1)) mt gl').1 = e ∧ Ext (fun _ => False) w0 w2 := fun w2 hb e2 =>
        ⟨2, rfl, by decide, rowF_stop (by rw [hkf, hb]) (by decide), e2⟩
      refine Nn.of (LdT.blk (ts := LiA30) (pre := (tcl ⟨m.on, mt, m.line⟩ g x o ns gs').take 13) (post := (tcl ⟨m.on, mt, m.line⟩ g x o ns gs').drop 43) (t := TU) (x := g) T.blk rfl ?_)
      refine (c_use g _).mono (fun w89 h89 => ?_) fun v w89 h89 => ?_
      case refine_2 =>
        obtain ⟨rfl, hg, e89⟩ := h89
        exact bad _ (by unfold backF; rw [if_neg (by rw [hg]; decide)]) (T.ext.tr e89)
      obtain ⟨hg, e89⟩ := h89
      obtain ⟨g1, g2, g3, g4, g5, g6⟩ := useG_in hg
      have H := H.keep e89
      have T := T.keep e89
      have hbk : backF g mt nv = (mulO (near3 nv) (tsize g)).bind fun w => (scaledP g w).bind fun t => mulP (moveM (-t) 0) mt := by unfold backF; rw [if_pos hg]
      iterate 6 refine H.ld 0 rfl rfl ?_
      refine (Mat.c_number k _).mono ?_
      rintro r96 r97 w98 ⟨h98, e98⟩
      rw [hnv] at h98
      obtain ⟨rfl, rfl⟩ := Prod.mk.inj h98
      have T := (T.keep e98).keep (Ext.refl (fun _ => False) w98).drew
      have cl : ∀ {j : Nat} {v : Value}, (tcl ⟨m.on, mt, m.line⟩ g x o ns gs')[j]? = some v → w98.drew.cell? ⟨b, j, none⟩ = some v := fun {j v} hj => by
        rw [T.blk.cell, List.getElem?_toArray]
        exact hj
      refine ⟨Ext (fun _ => False) w98.drew, Ext.refl _ _, Nn.of (ldS_ext (x := tsize g) (cl rfl) ?_)⟩
      refine (c_Near3 (n := r96) (by omega) _).mono ?_
      rintro r e w104 ⟨rfl, rfl, e104⟩
      refine ⟨e104, (Sw.c_mustI _ 0 _).mono (fun r w3 h3 => ?_) fun v w3 h3 => absurd rfl h3.2.1⟩
      obtain ⟨rfl, _, rfl⟩ := h3
      refine ⟨e104, (c_mul2 _ _ _).mono ?_⟩
      rintro r e w109 ⟨hr, e109⟩
      have T := T.keep (e104.tr e109)
      refine (Sw.c_mustI _ _ _).mono (fun r2 w3 h3 => ?_) fun v w3 h3 => ?_
      case refine_2 =>
        obtain ⟨hn, rfl⟩ := resI_no hr h3.2.1
        rw [h3.1, h3.2.2]
        exact bad _ (by rw [hbk, hn]; rfl) T.ext
      obtain ⟨rfl, rfl, rfl⟩ := h3
      have hmu := resI_yes hr
      have T := T.keep (Ext.refl (fun _ => False) _).drew
      have cl : ∀ {j : Nat} {v : Value}, (tcl ⟨m.on, mt, m.line⟩ g x o ns gs')[j]? = some v → w3.drew.cell? ⟨b, j, none⟩ = some v := fun {j v} hj => by
        rw [T.blk.cell, List.getElem?_toArray]
        exact hj
      refine ⟨Ext (fun _ => False) w3.drew, Ext.refl _ _, Nn.of ?_⟩
      refine LdST.blk (ts := LiA83) (pre := (tcl ⟨m.on, mt, m.line⟩ g x o ns gs').take 13) (post := (tcl ⟨m.on, mt, m.line⟩ g x o ns gs').drop 50) (t := TU) (x := hand g x) (fun w' hw => hw.blk T.blk id) rfl (Nn.of ?_)
      refine ldS_ext (x := mt.1) (cl rfl) (ldS_ext (x := mt.2.1) (cl rfl) (ldS_ext (x := mt.2.2.1) (cl rfl) (ldS_ext (x := mt.2.2.2.1) (cl rfl) (ldS_ext (x := mt.2.2.2.2.1) (cl rfl) (ldS_ext (x := mt.2.2.2.2.2) (cl rfl) ?_)))))
      refine (c_scaled x (mulO_in hmu) g4 _).mono (fun t w123 h123 => ?_) fun v w123 h123 => ?_
      case refine_2 =>
        obtain ⟨rfl, hn, e123⟩ := h123
        exact bad _ (by rw [hbk, hmu]; show Option.bind (scaledP g r2) _ = _; rw [hn]; rfl) (T.ext.tr e123)
      obtain ⟨hsc, e123⟩ := h123
      have hti := inW_spec.1 (scaledP_in hsc)
      rw [i64_id (n := 0 - t) (by omega), Int.zero_sub]
      refine ⟨e123, (c_fits (-t) _).mono (fun r w3 h3 => ?_) fun v w3 h3 => ?_⟩
      case refine_2 =>
        have := inW_no.1 h3.2.1
        omega
      obtain ⟨rfl, _, rfl⟩ := h3
      refine ⟨e123, (c_move (-t) 0 _).mono ?_⟩
      rintro mv w127 ⟨rfl, e127⟩
      refine ⟨e123.tr e127, (Mat.c_mul (moveM (-t) 0) mt _).mono ?_⟩
      rintro nx e w130 ⟨hnx, e130⟩
      have hb2 : backF g mt r96 = mulP (moveM (-t) 0) mt := by
        rw [hbk, hmu]
        show Option.bind (scaledP g r2) _ = _
        rw [hsc]
        rfl
      have T := T.keep ((e123.tr e127).tr e130)
      refine (Sw.c_mustM nx e _).mono (fun r w132 h132 => ?_) fun v w132 h132 => ?_
      case refine_2 =>
        obtain ⟨hn, rfl⟩ := resM_no hnx h132.2.1
        rw [h132.1]
        exact bad _ (by rw [hb2]; exact hn) (T.ext.tr h132.2.2)
      obtain ⟨rfl, rfl, e132⟩ := h132
      have hnx := resM_yes hnx
      refine Nn.of ((T.keep e132).text r fun w139 T2 _ => ?_)
      exact ⟨K.length - (i + 1), by omega, i + 1, gs', gl', r, rfl, by omega, rfl, rowF_step (by rw [hkf, hb2, hnx]), hgl', T2⟩
  · have : i = K.length := by omega
    subst this
    rw [List.drop_length] at hrw
    exact ⟨gs', gl', mt, hrw, T⟩
end
end Ma
end Go.Proofs.YtcblpehnkogfdaaGreatDoor
/- Text machines: a turn's array. Conditions: sizes, the laid tables. -/
namespace Go.Proofs.YtcblpehnkogfdaaGreatDoor
namespace Ma
open Sh Mat Fix Fo Sw Opr Pat
set_option linter.unusedVariables false
set_option linter.unusedSimpArgs false
set_option maxRecDepth 8000
set_option maxHeartbeats 4000000
theorem BrN {a b : ByteArray} {A B : Prop} (h1 : Opr.bl a = Opr.bl b → A) (h2 : ¬ Opr.bl a = Opr.bl b → B) : Br (a.toList == b.toList) A B := by rw [eqB]; exact Br.dec h1 h2
theorem tcl_spaced (m : Mc) (g : GT) (x : FT) (o : OpT) (ns gs : Slc) (a b : Int) : ((tcl m g x o ns gs).set 36 (.int .i64 a)).set 35 (.int .i64 b) = tcl m (spaced g a b) x o ns gs := by
  simp only [tcl, spaced, tx, List.set]
theorem num_len {nm d : Opr.By} {L : List Ob} (h : Opr.chkF nm L d = 0) (hten : nm ∈ ten) : (L.filter isNum).length = (takes nm).countP (fun b => decide (b = 110)) := by
  have hm : L.map isNum = (takes nm).map fun b => decide (b = 110) := by
    apply List.ext_getElem?
    intro i
    by_cases hi : i < L.length
    · obtain ⟨b, hb, hn⟩ := letter_num h hten hi
      rw [List.getElem?_map, List.getElem?_map, hb, List.getElem?_eq_getElem hi]
      simp [hn]
    · have := (chk_parts h).1
      rw [List.getElem?_eq_none (by rw [List.length_map]; omega), List.getElem?_eq_none (by rw [List.length_map]; omega)]
  rw [← List.countP_eq_length_filter]
  have h1 : (L.map isNum).countP id = L.countP isNum := by rw [List.countP_map]; rfl
  have h2 : ((takes nm).map fun b => decide (b = 110)).countP id = (takes nm).countP fun b => decide (b = 110) := by rw [List.countP_map]; rfl
  rw [← h1, hm, h2]
attribute [local irreducible] Ld Sh.St Nw Nn Lt LdS
section
variable {w0 w w' : World} {b : Nat} {m : Mc} {g : GT} {x : FT} {o : OpT} {ns gs : Slc} {gl : List GlT} {f : Font} {L K : List Ob}
theorem c_trow (T : TS w0 w b m g x o ns gl gs) (hT : TB w0) (h : FoV w0 x f) (hgl : gl.length ≤ 16384) (hL : OV w0 o.2.1 L) (hL0 : 0 < L.length) (hK : OV w0 (arg L 0).2.2.2.2.2 K) (hKl : K.length ≤ 9223372036854775807) (hks : ∀ k ∈ K, k.2.2.2.1.size ≤ 1048576) :
    C81 (some (⟨b, 0, none⟩ : Addr)) w (fun w1 => K.all kidOk = true ∧ ∃ gs' gl' mt, rowF g f K m.text gl = (0, gl', mt) ∧ TS w0 w1 b ⟨m.on, mt, m.line⟩ g x o ns gl' gs')
      fun v w1 => ∃ e, v = Sw.gup e ∧ e ≠ 0 ∧ (if K.all kidOk = false then 28 else (rowF g f K m.text gl).1) = e ∧ Ext (fun _ => False) w0 w1 := by
  refine T81 _ _ _ _ ?_
  unfold S81
  refine Nn.of (Ld.of T.blk (x := o.2.1) rfl ?_)
  have hLw := hL.keep T.ext
  obtain ⟨a, ha, _, _, _, _, _, c5⟩ := hLw.get (i := 0) (List.getElem?_eq_getElem hL0)
  rw [hLw.1, ha]
  have harg : arg L 0 = L[0] := by unfold arg; rw [List.getD_eq_getElem?_getD, List.getElem?_eq_getElem hL0]; rfl
  rw [harg] at hK
  refine ⟨by decide, by omega, Nn.of (Ld.mk (x := L[0].2.2.2.2.2) c5 ?_)⟩
  refine ⟨fun n st w1 => ∃ i : Nat, st = (i : Int) ∧ i ≤ K.length ∧ n = K.length - i ∧ TS w0 w1 b m g x o ns gl gs ∧ ∀ j (hj : j < K.length), j < i → kidOk K[j] = true, K.length, ⟨0, rfl, Nat.zero_le _, rfl, T, fun j hj h => by omega⟩, ?_⟩
  rintro n st w1 ⟨i, rfl, hi, rfl, T, hall⟩
  unfold S81L2
  rw [hK.1]
  refine Br.dec (fun q => ⟨by omega, by omega, ?_⟩) fun q => ?_
  · have hil : i < K.length := by omega
    obtain ⟨a, ha, c0, c1, c2, c3, c4, c5⟩ := (hK.keep T.ext).get (List.getElem?_eq_getElem hil)
    rw [ha, Int.toNat_natCast]
    have hw : IntKind.i64.wrap ((i : Int) + 1) = ((i + 1 : Nat) : Int) := by rw [i64_id (by omega)]; rfl
    rw [hw]
    refine Nn.of (Ld.mk c0 (Ld.mk c1 (Ld.mk c2 (Ld.mk c3 (Ld.mk c4 (Ld.mk c5 ?_))))))
    have H := Hn.start w1
    refine H.nw fun w45 H => ?_
    simp only [List.nil_append, List.cons_append, List.set_cons_zero, List.set_cons_succ, Nat.zero_add] at H
    iterate 6 (refine H.st 0 rfl (by simp) fun _ H => ?_; simp only [List.nil_append, List.cons_append, List.set_cons_zero, List.set_cons_succ, Nat.zero_add] at H)
    have T := T.keep H.ext
    iterate 6 refine H.ld 0 rfl rfl ?_
    have next : ∀ w2, TS w0 w2 b m g x o ns gl gs → kidOk K[i] = true → ∃ m', m' < K.length - i ∧ ∃ i' : Nat, ((i + 1 : Nat) : Int) = (i' : Int) ∧ i' ≤ K.length ∧ m' = K.length - i' ∧ TS w0 w2 b m g x o ns gl gs ∧ ∀ j (hj : j < K.length), j < i' → kidOk K[j] = true := fun w2 T2 hk =>
      ⟨K.length - (i + 1), by omega, i + 1, rfl, by omega, rfl, T2, fun j hj hji => by
        by_cases e : j = i
        · subst e; exact hk
        · exact hall j hj (by omega)⟩
    refine (Mat.c_number K[i] _).mono ?_
    rintro r58 r59 w60 ⟨h60, e60⟩
    have T := T.keep e60
    cases hnv : numV K[i] with
    | some nv =>
      rw [hnv] at h60
      obtain ⟨rfl, rfl⟩ := Prod.mk.inj h60
      refine Sh.Br.t rfl ((Sw.c_need _ _ _).mono (fun w61 h61 => ?_) fun v w61 h61 => by cases h61.2.1)
      obtain ⟨_, rfl⟩ := h61
      exact next _ T (by unfold kidOk; rw [hnv]; rfl)
    | none =>
      rw [hnv] at h60
      obtain ⟨rfl, rfl⟩ := Prod.mk.inj h60
      refine Sh.Br.f rfl ((H.keep e60).ld 0 rfl (x := K[i].1) rfl ?_)
      refine (Sw.c_need _ _ _).mono (fun w61 h61 => ?_) fun v w61 h61 => ?_
      · obtain ⟨h4, rfl⟩ := h61
        exact next _ T (by unfold kidOk; rw [hnv]; simpa using h4)
      · obtain ⟨rfl, h4, rfl⟩ := h61
        refine ⟨28, rfl, by decide, if_pos ?_, T.ext⟩
        cases hk : K.all kidOk with
        | false => rfl
        | true =>
          have := List.all_eq_true.1 hk _ (List.getElem_mem hil)
          unfold kidOk at this
          rw [hnv] at this
          have h4 : ¬ K[i].1 = 4 := by simpa using h4
          simp [h4] at this
  · have hok : K.all kidOk = true := List.all_eq_true.2 fun k hk => by
      obtain ⟨j, hj, rfl⟩ := List.mem_iff_getElem.1 hk
      exact hall j hj (by omega)
    have hloop := c_tkids T hT h hgl hK hKl hok hks
    rw [if_neg (by rw [hok]; decide)]
    have e2 : (fun w1 => K.all kidOk = true ∧ ∃ gs' gl' mt, rowF g f K m.text gl = (0, gl', mt) ∧ TS w0 w1 b ⟨m.on, mt, m.line⟩ g x o ns gl' gs') = fun w1 => ∃ gs' gl' mt, rowF g f K m.text gl = (0, gl', mt) ∧ TS w0 w1 b ⟨m.on, mt, m.line⟩ g x o ns gl' gs' := by
      funext w1
      rw [hok]
      simp
    rw [e2]
    exact hloop
end
end Ma
end Go.Proofs.YtcblpehnkogfdaaGreatDoor

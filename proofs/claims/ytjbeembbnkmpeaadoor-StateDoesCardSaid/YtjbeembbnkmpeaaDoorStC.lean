/- Graphics states: colors, dashes, matrices and single values, as the program changes them. Conditions: sizes; the operator has been checked. -/
import Derived.Test.YtjbeembbnkmpeaaDoorStB
namespace Go.Proofs.YtjbeembbnkmpeaaDoor
namespace Ste
open Sh Mat Opr
set_option linter.unusedVariables false
set_option linter.unusedSimpArgs false
set_option maxRecDepth 8000
set_option maxHeartbeats 8000000
attribute [local irreducible] Ld Sh.St Nw Nn Lt LdS LdT LdST StT
section
variable {w w' w1 : World} {s : Slc} {l : List Int} {L K : List Ob} {b : Nat} {x : G} {D : List Int} {a d : ByteArray}
theorem lenG (x : G) : (Sig.cells LG x).length = 30 := rfl
theorem ltG (x : G) {i : Nat} (h : i < 30) : i < (Sig.cells LG x).length := h
theorem stB {cs : List Value} {t : TypeId} {i : Nat} {v : Value} {R : World → Prop} (h : Blk w b cs.toArray t) (ho : i < cs.length) (k : ∀ w2, Blk w2 b (cs.set i v).toArray t → Ext (· = b) w w2 → R w2) : Sh.St w ⟨b, i, none⟩ v R := by
  unfold Sh.St
  refine ⟨h.can (by simpa using ho), k _ ?_ ((Ext.refl (· = b) w).set (.inl rfl) v)⟩
  have := h.set i v
  rwa [List.setIfInBounds_toArray] at this
theorem ldS_iv {S : World → Prop} {w0 : World} {R : Int → Prop} {i : Nat} {ii : Int} (h0 : IV w0 s l) (hS : ∀ w', S w' → IV w' s l) (hi : i < l.length) (e : ii = (i : Int)) (k : R (l.getD i 0)) : 0 ≤ ii ∧ ii < (s.len : Nat) ∧ Nn s.p fun a => LdS S (a.add (ii.toNat * 1)) (Value.int .i64) R := by
  subst e
  obtain ⟨ad, ha, _⟩ := h0.get hi
  have hl := h0.1
  rw [ha, Int.toNat_natCast]
  refine ⟨by omega, by omega, Nn.of ?_⟩
  unfold LdS
  refine ⟨l.getD i 0, fun w' hw => ?_, k⟩
  obtain ⟨ad', ha', hc⟩ := (hS w' hw).get hi
  rw [ha] at ha'
  cases ha'
  exact hc
theorem c_col (sp : Int) (h : OV w s L) (hl : L.length ≤ 4) : C168 sp (a, s, d) w (fun r w1 => col sp L = .ok r ∧ Ext (fun _ => False) w w1) fun v w1 => ∃ e, col sp L = .error e ∧ v = stp e ∧ Ext (fun _ => False) w w1 := by
  refine T168 _ (a, s, d) _ _ _ ?_
  unfold S168
  refine (Hn.start w).nw fun w2 H => ?_
  refine H.nw fun w3 H => ?_
  refine H.nw fun w4 H => ?_
  simp only [List.cons_append, List.nil_append, add_lit, Nat.zero_add] at H ⊢
  iterate 3 refine H.ld 0 rfl rfl ?_
  have hb24 := H.lt 2 rfl
  refine (c_nums (h.keep H.ext) (by omega)).mono ?_ ?_
  rotate_left
  · rintro v w5 ⟨e, he, rfl, e5⟩
    exact ⟨e, by unfold col; rw [he], rfl, H.ext.tr e5⟩
  rintro r w5 ⟨l, hn, ho, hll, e5⟩
  have H := H.keep e5
  have hb2 := H.lt 2 rfl
  have hown : ∀ j, r.own j → j ≠ w3.heap.size := fun j hj => by
    have h1 := ho.2 j hj
    omega
  refine ⟨fun n st w6 => ∃ (i : Nat) (A : List Int), st = (i : Int) ∧ i ≤ l.length ∧ n = l.length - i ∧ A.length = 4 ∧ (∀ j, A.getD j 0 = if j < i then l.getD j 0 else 0) ∧ (∀ j, j < i → 0 ≤ l.getD j 0 ∧ l.getD j 0 ≤ 10000) ∧ IV w6 r l ∧ Hn w w6 [(w.heap.size, [.string a, Slc.v s, .string d], 63), (w2.heap.size, [.int .i64 0, .int .i64 0, .int .i64 0, .int .i64 0, .int .i64 0], 26), (w3.heap.size, ints A, 266)], l.length,
    ⟨0, [0, 0, 0, 0], rfl, by omega, rfl, rfl, fun j => by
      rw [if_neg (by omega)]
      match j with
      | 0 | 1 | 2 | 3 => rfl
      | j + 4 => rfl, fun j hj => by omega, ho.iv, H⟩, ?_⟩
  clear H
  rintro n st w6 ⟨i, A, rfl, hi, rfl, hA, hAj, hall, hv, H⟩
  unfold S168L1
  rw [hv.1]
  refine Br.dec (fun q => ⟨by omega, by omega, ?_⟩) fun q => ?_
  · obtain ⟨ad, ha, hc⟩ := hv.get (i := i) (by omega)
    rw [ha, Int.toNat_natCast]
    have bad : ¬ (0 ≤ l.getD i 0 ∧ l.getD i 0 ≤ 10000) → col sp L = .error 2 := fun hb => by
      unfold col
      rw [hn]
      refine if_neg fun hh => hb ?_
      have := List.all_eq_true.1 hh (l.getD i 0) (by rw [List.getD_eq_getElem?_getD, List.getElem?_eq_getElem (by omega)]; exact List.getElem_mem _)
      simpa using this
    refine Nn.of (Ld.mk hc (Br.dec (fun q2 => (c_must _ 2 _).mono ?_ ?_) fun q2 => (c_must _ 2 _).mono ?_ ?_))
    · rintro w7 ⟨h1, rfl⟩
      have h1 := of_decide_eq_true h1
      refine ⟨by omega, by omega, ?_⟩
      simp only [add_lit, Nat.mul_one, Nat.zero_add, Int.toNat_natCast]
      refine H.st' 2 rfl (by rw [ints_len]; omega) fun w8 H e8 => ?_
      simp only [List.set_cons_zero, List.set_cons_succ] at H
      rw [ints_set] at H
      refine ⟨l.length - (i + 1), by omega, i + 1, A.set i (l.getD i 0), by rw [i64_id (by omega)]; rfl, by omega, rfl, by simpa using hA, fun j => ?_, fun j hj => ?_, hv.keepF e8 fun j hj hh => hown j hj hh, H⟩
      · rw [List.getD_eq_getElem?_getD, List.getElem?_set]
        by_cases e : i = j
        · subst e
          rw [if_pos rfl, if_pos (by omega), if_pos (by omega)]
          rfl
        · rw [if_neg e, ← List.getD_eq_getElem?_getD, hAj j]
          by_cases hj : j < i
          · rw [if_pos hj, if_pos (by omega)]
          · rw [if_neg hj, if_neg (by omega)]
      · by_cases e : j = i
        · subst e; exact ⟨q2, h1⟩
        · exact hall j (by omega)
    · rintro v w7 ⟨rfl, h1, rfl⟩
      have h1 := of_decide_eq_false h1
      exact ⟨2, bad fun hh => h1 hh.2, rfl, H.ext⟩
    · rintro w7 ⟨h1, rfl⟩
      cases h1
    · rintro v w7 ⟨rfl, h1, rfl⟩
      exact ⟨2, bad fun hh => q2 hh.1, rfl, H.ext⟩
  · have hil : i = l.length := by omega
    have hok : col sp L = .ok (sp, l.getD 0 0, l.getD 1 0, l.getD 2 0, l.getD 3 0) := by
      unfold col
      rw [hn]
      refine if_pos (List.all_eq_true.2 fun y hy => ?_)
      obtain ⟨j, hj, rfl⟩ := List.mem_iff_getElem.1 hy
      have := hall j (by omega)
      rw [List.getD_eq_getElem?_getD, List.getElem?_eq_getElem hj, Option.getD_some] at this
      simpa using this
    have hAl : ∀ j, A.getD j 0 = l.getD j 0 := fun j => by
      rw [hAj j]
      split
      · rfl
      · rw [List.getD_eq_getElem?_getD, List.getElem?_eq_none (by omega)]
        rfl
    obtain ⟨a0, a1, a2, a3, rfl⟩ : ∃ a0 a1 a2 a3, A = [a0, a1, a2, a3] := by
      match A, hA with
      | [a0, a1, a2, a3], _ => exact ⟨a0, a1, a2, a3, rfl⟩
    simp only [add_lit, Nat.zero_add]
    iterate 4 refine H.ld 2 rfl rfl ?_
    iterate 5 (refine H.st 1 rfl (by simp) fun _ H => ?_; simp only [List.nil_append, List.cons_append, List.set_cons_zero, List.set_cons_succ, Nat.zero_add] at H)
    iterate 5 refine H.ld 1 rfl rfl ?_
    refine ⟨?_, H.ext⟩
    rw [hok, ← hAl 0, ← hAl 1, ← hAl 2, ← hAl 3]
    rfl
theorem abvs_step {K : List Ob} {i : Nat} {o : Ob} {l : List Int} (ho : K[i]? = some o) (h : abvs K = (match abvs (K.drop i) with
      | .error e => .error e
      | .ok r => .ok (l ++ r))) : (∀ n, abv o = .ok n → abvs K = (match abvs (K.drop (i + 1)) with
      | .error e => .error e
      | .ok r => .ok ((l ++ [n]) ++ r))) ∧ ∀ e, abv o = .error e → abvs K = .error e := by
  obtain ⟨hlt, rfl⟩ := List.getElem?_eq_some_iff.1 ho
  rw [List.drop_eq_getElem_cons hlt] at h
  refine ⟨fun n hn => ?_, fun e he => ?_⟩
  · rw [h]
    simp only [abvs, hn]
    cases abvs (K.drop (i + 1)) with
    | error e => rfl
    | ok r => simp
  · rw [h]
    simp only [abvs, he]
theorem c_dash (hb : Blk w b (Sig.cells LG x).toArray 30) (h : OV w s L) (hL : L.length = 2) (hK : OV w (ob0 L).2.2.2.2.2 K) (hKl : K.length ≤ 9223372036854775807) :
    C167 (some ⟨b, 0, none⟩) (a, s, d) w (fun w1 => ∃ r, dshF K (ob1 L) = .ok r ∧ ∃ t, Blk w1 b (Sig.cells LG (up10 (up11 x r.2) t)).toArray 30 ∧ IO w w1 t r.1 ∧ Ext (· = b) w w1) fun v w1 => ∃ e, dshF K (ob1 L) = .error e ∧ v = stp e ∧ Ext (· = b) w w1 := by
  refine T167 _ (a, s, d) _ _ _ ?_
  unfold S167
  obtain ⟨o0, o1, rfl⟩ : ∃ o0 o1, L = [o0, o1] := by
    match L, hL with
    | [o0, o1], _ => exact ⟨o0, o1, rfl⟩
  have hK : OV w o0.2.2.2.2.2 K := hK
  have weak : ∀ {w2 : World}, Ext (fun _ => False) w w2 → Ext (· = b) w w2 := fun he => he.mono fun _ _ e => e.elim
  refine (Hn.start w).nw fun w2 H => ?_
  simp only [List.nil_append] at H
  iterate 1 refine H.ld 0 rfl rfl ?_
  obtain ⟨ad, ha, c0, c1, c2, c3, c4, c5⟩ := (h.keep H.ext).get (i := 0) rfl
  rw [h.1, ha]
  refine ⟨by omega, by show (0 : Int) < ((2 : Nat) : Int); omega, Nn.of (Ld.mk c5 ?_)⟩
  rw [hK.1]
  refine (c_must _ 6 _).mono ?_ ?_
  rotate_left
  · rintro v w3 ⟨rfl, hh, rfl⟩
    have hh := of_decide_eq_false hh
    exact ⟨6, by unfold dshF; rw [if_pos (by omega)], rfl, weak H.ext⟩
  rintro w3 ⟨hh, rfl⟩
  have hh := of_decide_eq_true hh
  have e6 : dshF K o1 = if K.all (fun k => k.1 == 2 || k.1 == 3) = false then .error 28 else match abvs K with
    | .error e => .error e
    | .ok l => match abv o1 with
      | .error e => .error e
      | .ok x => .ok (l, x) := by
    unfold dshF
    rw [if_neg (by omega)]
    rfl
  have eo1 : ob1 [o0, o1] = o1 := rfl
  rw [eo1, e6]
  refine ⟨fun n st w4 => ∃ i : Nat, st = (i : Int) ∧ i ≤ K.length ∧ n = K.length - i ∧ (∀ j k, j < i → K[j]? = some k → (k.1 == 2 || k.1 == 3) = true) ∧ Hn w w4 [(w.heap.size, [.string a, Slc.v s, .string d], 63)], K.length, ⟨0, rfl, by omega, rfl, fun j k hj => by omega, H⟩, ?_⟩
  clear H c0 c1 c2 c3 c4 c5
  rintro n st w4 ⟨i, rfl, hi, rfl, hall, H⟩
  unfold S167L2
  rw [hK.1]
  refine Br.dec (fun q => ⟨by omega, by omega, ?_⟩) fun q => ?_
  · obtain ⟨o, hoi⟩ : ∃ o, K[i]? = some o := ⟨_, List.getElem?_eq_getElem (by omega)⟩
    obtain ⟨ad2, ha2, c0, c1, c2, c3, c4, c5⟩ := (hK.keep H.ext).get hoi
    rw [ha2, Int.toNat_natCast]
    refine Nn.of (Ld.mk c0 (Ld.mk c1 (Ld.mk c2 (Ld.mk c3 (Ld.mk c4 (Ld.mk c5 ?_))))))
    have e4 := H.ext
    refine (Hn.start w4).nw fun w5 H5 => ?_
    simp only [List.nil_append] at H5
    iterate 5 (refine H5.st 0 rfl (by simp) fun _ H5 => ?_; simp only [List.set_cons_zero, List.set_cons_succ] at H5)
    refine H5.st 0 rfl (by simp) fun w5b H5 => ?_
    simp only [List.set_cons_zero, List.set_cons_succ] at H5
    have e5 := H5.ext
    have H := H.keep e5
    have next : ∀ {w6 : World}, w6 = w5b → (o.1 == 2 || o.1 == 3) = true → ∃ n', n' < K.length - i ∧ ∃ i' : Nat, IntKind.i64.wrap ((i : Int) + 1) = (i' : Int) ∧ i' ≤ K.length ∧ n' = K.length - i' ∧ (∀ j k, j < i' → K[j]? = some k → (k.1 == 2 || k.1 == 3) = true) ∧ Hn w w6 [(w.heap.size, [.string a, Slc.v s, .string d], 63)] := fun {w6} hw ho => by
      subst hw
      refine ⟨K.length - (i + 1), by omega, i + 1, by rw [i64_id (by omega)]; rfl, by omega, rfl, fun j k hj hk => ?_, H⟩
      by_cases e : j = i
      · subst e
        rw [hoi] at hk
        cases hk
        exact ho
      · exact hall j k (by omega) hk
    refine H5.ld 0 rfl rfl (Br.eq (fun q2 => (c_must _ 28 _).mono ?_ ?_) fun q2 => H5.ld 0 rfl rfl ((c_must _ 28 _).mono ?_ ?_))
    · rintro w7 ⟨_, hw⟩
      exact next hw (by rw [q2]; rfl)
    · rintro v w7 ⟨rfl, h7, rfl⟩
      cases h7
    · rintro w7 ⟨h7, hw⟩
      exact next hw (by rw [h7, Bool.or_true])
    · rintro v w7 ⟨rfl, h7, rfl⟩
      refine ⟨28, if_pos ?_, rfl, weak H.ext⟩
      rw [List.all_eq_false]
      refine ⟨o, List.mem_of_getElem? hoi, ?_⟩
      have q2' : (o.1 == 2) = false := by rw [beq_eq_false_iff_ne]; exact q2
      rw [q2', h7]
      simp
  · have hyes : K.all (fun k => k.1 == 2 || k.1 == 3) = true := List.all_eq_true.2 fun k hk => by
      obtain ⟨j, hj⟩ := List.mem_iff_getElem?.1 hk
      exact hall j k (by have := (List.getElem?_eq_some_iff.1 hj).1; omega) hj
    rw [if_neg (by rw [hyes]; simp)]
    have e4 := H.ext
    refine ⟨fun n st w5 => ∃ (i : Nat) (l : List Int), st.2 = (i : Int) ∧ i ≤ K.length ∧ l.length = i ∧ n = K.length - i ∧ IO w4 w5 st.1 l ∧ Ext (fun _ => False) w4 w5 ∧ abvs K = (match abvs (K.drop i) with
      | .error e => .error e
      | .ok r => .ok (l ++ r)), K.length, ⟨0, [], rfl, by omega, rfl, rfl, IO.nil _ _, Ext.refl _ _, by rw [List.drop_zero]; cases abvs K <;> rfl⟩, ?_⟩
    clear hall
    rintro n ⟨r, i⟩ w5 ⟨i, l, hi, hil, hll, rfl, ho, e45, hn⟩
    have H := H.keep e45
    have s4 := e4.size
    unfold S167L1
    dsimp only at *
    subst hi
    rw [hK.1]
    refine Br.dec (fun q => ⟨by omega, by omega, ?_⟩) fun q => ?_
    · obtain ⟨o, hoi⟩ : ∃ o, K[i]? = some o := ⟨_, List.getElem?_eq_getElem (by omega)⟩
      obtain ⟨ad2, ha2, c0, c1, c2, c3, c4, c5⟩ := (hK.keep H.ext).get hoi
      obtain ⟨st1, st2⟩ := abvs_step hoi hn
      rw [ha2, Int.toNat_natCast]
      refine Nn.of (Ld.mk c0 (Ld.mk c1 (Ld.mk c2 (Ld.mk c3 (Ld.mk c4 (Ld.mk c5 ?_))))))
      refine (Hn.start w5).nw fun w6 H5 => ?_
      simp only [List.nil_append] at H5
      iterate 6 (refine H5.st 0 rfl (by simp) fun _ H5 => ?_; simp only [List.set_cons_zero, List.set_cons_succ] at H5)
      simp only [add_lit, Nat.zero_add]
      iterate 6 refine H5.ld 0 rfl rfl ?_
      have e6 := H5.ext
      have H := H.keep e6
      refine (c_abv o _).mono ?_ ?_
      · rintro y w7 ⟨hy, e7⟩
        have H := H.keep e7
        refine IO.snoc (w0 := w4) ⟨(ho.1.keep e6 fun _ _ e => e).keep e7 fun _ _ e => e, ho.2⟩ (e45.tr (e6.tr e7)) (by omega) fun r' w' ho' e' => ?_
        exact ⟨K.length - (i + 1), by omega, i + 1, l ++ [y], by rw [i64_id (by omega)]; rfl, by omega, by simp [hll], rfl, ho', e', st1 y hy⟩
      · rintro v w7 ⟨e, hy, rfl, e7⟩
        exact ⟨e, by rw [st2 e hy], rfl, weak (H.ext.tr e7)⟩
    · have : i = K.length := by omega
      subst this
      rw [List.drop_length] at hn
      simp only [abvs, List.append_nil] at hn
      obtain ⟨ad2, ha2, c0, c1, c2, c3, c4, c5⟩ := (h.keep H.ext).get (i := 1) rfl
      refine H.ld 0 rfl rfl ?_
      rw [h.1, ha2]
      refine ⟨by omega, by show (1 : Int) < ((2 : Nat) : Int); omega, Nn.of (Ld.mk c0 (Ld.mk c1 (Ld.mk c2 (Ld.mk c3 (Ld.mk c4 (Ld.mk c5 ?_))))))⟩
      rw [hn]
      dsimp only
      refine (c_abv o1 _).mono ?_ ?_
      · rintro y w7 ⟨hy, e7⟩
        have E := H.ext.tr e7
        have hb7 := E.blk hb id
        refine Nn.of ?_
        simp only [add_lit, Nat.zero_add]
        refine stB hb7 (ltG _ (by decide)) fun w8 hb8 e8 => Nn.of ?_
        simp only [add_lit, Nat.zero_add]
        rw [set11] at hb8
        refine stB hb8 (ltG _ (by decide)) fun w9 hb9 e9 => ?_
        rw [set10] at hb9
        have hlt := hb.lt
        refine ⟨(l, y), by rw [hy], r, hb9, ⟨?_, fun j hj => by have := ho.2 j hj; omega⟩, (weak E).tr (e8.tr e9)⟩
        exact ((ho.1.keep e7 fun _ _ e => e).keep e8 fun j hj hh => by have := ho.2 j hj; omega).keep e9 fun j hj hh => by have := ho.2 j hj; omega
      · rintro v w7 ⟨e, hy, rfl, e7⟩
        exact ⟨e, by rw [hy], rfl, weak (H.ext.tr e7)⟩
end
end Ste
end Go.Proofs.YtjbeembbnkmpeaaDoor

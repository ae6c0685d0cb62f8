/- The reference's state: colours, dashes, lines. Conditions: sizes. -/
import Derived.Test.YtjbeembbnkmpeaaDoorStT
namespace Go.Proofs.YtjbeembbnkmpeaaDoor
namespace Ste
open Sh Mat Opr
set_option linter.unusedVariables false
set_option linter.unusedSimpArgs false
set_option maxRecDepth 8000
set_option maxHeartbeats 8000000
theorem atN {w : World} {n : Slc} {l : List Int} {K : Int → Prop} (i : Nat) (ii : Int) (e : ii = (i : Int)) (h : IV w n l) (hl : i < l.length) (k : K (l.getD i 0)) : 0 ≤ ii ∧ ii < (n.len : Nat) ∧ Nn n.p fun a => Ld w (a.add (ii.toNat * 1)) (Value.int .i64) K := by
  subst e
  obtain ⟨ad, ha, hc⟩ := h.get hl
  have := h.1
  rw [ha, Int.toNat_natCast]
  exact ⟨by omega, by omega, Nn.of (Ld.mk hc k)⟩
def in01 (l : List Int) : Bool := l.all fun n => decide (0 ≤ n) && decide (n ≤ 10000)
def spL (l : List Int) : Int := if l.length = 1 then 0 else if l.length = 3 then 1 else 2
def colL (l : List Int) : Int × Int × Int × Int × Int := (spL l, l.getD 0 0, l.getD 1 0, l.getD 2 0, l.getD 3 0)
theorem in01_no {l : List Int} {i : Nat} (hi : i < l.length) (h : ¬ (0 ≤ l.getD i 0 ∧ l.getD i 0 ≤ 10000)) : in01 l = false := by
  unfold in01
  rw [List.all_eq_false]
  refine ⟨l[i], List.getElem_mem hi, ?_⟩
  rw [List.getD_eq_getElem?_getD, List.getElem?_eq_getElem hi] at h
  simpa using h
theorem in01_yes {l : List Int} (h : ∀ i, i < l.length → 0 ≤ l.getD i 0 ∧ l.getD i 0 ≤ 10000) : in01 l = true := by
  unfold in01
  rw [List.all_eq_true]
  intro n hn
  obtain ⟨i, hi, rfl⟩ := List.mem_iff_getElem.1 hn
  have := h i hi
  rw [List.getD_eq_getElem?_getD, List.getElem?_eq_getElem hi] at this
  simpa using this
/-- The elements of a dash, as the reference reads them. -/
def dshK (K : List Ob) : Except Int (List Int) := if 32 < K.length then .error 6 else if K.all (fun k => k.1 == 2 || k.1 == 3) = false then .error 28 else abvs K
theorem abv_e {o : Ob} {e : Int} (h : abv o = .error e) : e = 2 := by
  unfold abv num at h
  split at h
  · rename_i e' he
    split at he
    · cases he
    · cases he
      cases h
      rfl
  · split at h
    · cases h
    · cases h
      rfl
theorem abvs_e : ∀ {K : List Ob} {e : Int}, abvs K = .error e → e = 2
  | [], e, h => by cases h
  | o :: r, e, h => by
    unfold abvs at h
    split at h
    · rename_i e' he
      cases h
      exact abv_e he
    · split at h
      · rename_i e' he
        cases h
        exact abvs_e he
      · cases h
section
variable {w w1 w7 : World} {s n : Slc} {l : List Int} {L K : List Ob} {x : G} {D : List Int} {a d : ByteArray}
attribute [local irreducible] Ld Sh.St Nw Nn LdS LdT LdST StT
theorem r_colour (h : IV w n l) (hl : l.length = 1 ∨ l.length = 3 ∨ l.length = 4) : C171 n w fun r ok w1 => Ext (fun _ => False) w w1 ∧ ok = in01 l ∧ (in01 l = true → r = colL l) := by
  refine T171 _ _ _ ?_
  unfold S171
  refine (Hn.start w).nw fun w2 H => ?_
  simp only [List.nil_append] at H
  have hlen := h.1
  refine ⟨fun m st w3 => ∃ i : Nat, st = (i : Int) ∧ i ≤ l.length ∧ m = l.length - i ∧ w3 = w2 ∧ ∀ j, j < i → 0 ≤ l.getD j 0 ∧ l.getD j 0 ≤ 10000, l.length, ⟨0, rfl, by omega, rfl, rfl, fun j hj => by omega⟩, ?_⟩
  rintro m st w3 ⟨i, rfl, hi, rfl, rfl, hall⟩
  unfold S171L1
  simp only [add_lit, Nat.zero_add]
  have hv := h.keep H.ext
  rw [hlen]
  refine Br.dec (fun q => ?_) fun q => ?_
  · have hlt : i < l.length := by omega
    have hno : ∀ {w4}, Ext (fun _ => False) w w4 → ¬ (0 ≤ l.getD i 0 ∧ l.getD i 0 ≤ 10000) → ∀ r : Int × Int × Int × Int × Int, Ext (fun _ => False) w w4 ∧ false = in01 l ∧ (in01 l = true → r = colL l) := fun e hh r => ⟨e, (in01_no hlt hh).symm, fun h => by rw [in01_no hlt hh] at h; cases h⟩
    rw [← hlen]
    refine atN i _ rfl hv hlt ?_
    refine Br.dec (fun q1 => ?_) fun q1 => ?_
    · iterate 5 (refine H.st 0 rfl (by simp) fun _ H => ?_; simp only [List.nil_append, List.cons_append, List.set_cons_zero, List.set_cons_succ, Nat.zero_add] at H)
      iterate 5 refine H.ld 0 rfl rfl ?_
      exact hno H.ext (by omega) _
    refine atN i _ rfl hv hlt ?_
    refine Br.dec (fun q2 => ?_) fun q2 => ?_
    · iterate 5 (refine H.st 0 rfl (by simp) fun _ H => ?_; simp only [List.nil_append, List.cons_append, List.set_cons_zero, List.set_cons_succ, Nat.zero_add] at H)
      iterate 5 refine H.ld 0 rfl rfl ?_
      exact hno H.ext (by omega) _
    refine ⟨l.length - (i + 1), by omega, i + 1, by rw [i64_id (by omega)]; rfl, by omega, by omega, by trivial, fun j hj => ?_⟩
    by_cases hji : j = i
    · subst hji
      omega
    · exact hall j (by omega)
  · have hyes : in01 l = true := in01_yes fun j hj => hall j (by omega)
    rw [hyes]
    refine Br.eq (fun q1 => ?_) fun q1 => ?_
    · rw [← hlen]
      refine atN 0 _ rfl hv (by omega) ?_
      iterate 5 (refine H.st 0 rfl (by simp) fun _ H => ?_; simp only [List.nil_append, List.cons_append, List.set_cons_zero, List.set_cons_succ, Nat.zero_add] at H)
      iterate 5 refine H.ld 0 rfl rfl ?_
      refine ⟨H.ext, rfl, fun _ => ?_⟩
      match l, (show l.length = 1 by omega) with
      | [p], _ => rfl
    refine Br.eq (fun q2 => ?_) fun q2 => ?_
    · rw [← hlen]
      have hv := hv.keep (Ext.refl _ w3).drew
      have H := H.drew
      refine atN 0 _ rfl hv (by omega) ?_
      refine atN 1 _ rfl hv (by omega) ?_
      refine atN 2 _ rfl hv (by omega) ?_
      iterate 5 (refine H.st 0 rfl (by simp) fun _ H => ?_; simp only [List.nil_append, List.cons_append, List.set_cons_zero, List.set_cons_succ, Nat.zero_add] at H)
      iterate 5 refine H.ld 0 rfl rfl ?_
      refine ⟨H.ext, rfl, fun _ => ?_⟩
      match l, (show l.length = 3 by omega) with
      | [p, q, r], _ => rfl
    refine Br.eq (fun q3 => ?_) fun q3 => by omega
    rw [← hlen]
    have hv := hv.keep (Ext.refl _ w3).drew
    have H := H.drew
    refine atN 0 _ rfl hv (by omega) ?_
    refine atN 1 _ rfl hv (by omega) ?_
    refine atN 2 _ rfl hv (by omega) ?_
    refine atN 3 _ rfl hv (by omega) ?_
    iterate 5 (refine H.st 0 rfl (by simp) fun _ H => ?_; simp only [List.nil_append, List.cons_append, List.set_cons_zero, List.set_cons_succ, Nat.zero_add] at H)
    iterate 5 refine H.ld 0 rfl rfl ?_
    refine ⟨H.ext, rfl, fun _ => ?_⟩
    match l, (show l.length = 4 by omega) with
    | [p, q, r, t], _ => rfl
theorem r_paint (h : IV w n l) (hl : l.length = 1 ∨ l.length = 3 ∨ l.length = 4) : C118 x a n w fun y e w1 => Ext (fun _ => False) w w1 ∧ if in01 l = true then e = 0 ∧ y = (if bl a ∈ ([[103], [114, 103], [107]] : List By) then upF x (colL l) else upS x (colL l)) else e = 2 := by
  refine T118 _ _ _ _ _ ?_
  unfold S118
  refine (Hn.start w).nw fun w2 H => ?_
  refine H.nw fun w3 H => ?_
  simp only [List.cons_append, List.nil_append, add_lit, Nat.zero_add] at H ⊢
  refine (r_colour (h.keep H.ext) hl).mono ?_
  rintro r ok w4 ⟨e4, hok, hr⟩
  have H := H.keep e4
  refine H.nw fun w5 H => ?_
  simp only [List.cons_append, List.nil_append] at H
  iterate 4 (refine H.st 2 rfl (by simp) fun _ H => ?_; simp only [List.nil_append, List.cons_append, List.set_cons_zero, List.set_cons_succ, Nat.zero_add] at H)
  refine H.st 2 rfl (by simp) fun wc H => ?_
  simp only [List.nil_append, List.cons_append, List.set_cons_zero, List.set_cons_succ, Nat.zero_add] at H
  cases hin : in01 l with
  | false =>
    rw [hin] at hok
    subst hok
    refine Br.t rfl ?_
    refine ldG (x := x) (H.get 0 rfl) ?_
    refine stG H (i := 1) rfl rfl fun w7 H7 => ?_
    simp only [List.set_cons_zero, List.set_cons_succ] at H7
    exact ldG (H7.get 1 rfl) ⟨H7.ext, by rw [if_neg (by decide)]; trivial⟩
  | true =>
    rw [hin] at hok
    subst hok
    have hr := hr hin
    subst hr
    refine Br.f rfl ?_
    have goF : ∀ {Rr : G → World → Prop}, (∀ w7, Ext (fun _ => False) w w7 → Rr (upF x (colL l)) w7) →
        Sh.St wc ⟨w.heap.size, 12, none⟩ (.int .i64 (colL l).1) fun v1 => Sh.St v1 ⟨w.heap.size, 13, none⟩ (.int .i64 (colL l).2.1) fun v2 => Sh.St v2 ⟨w.heap.size, 14, none⟩ (.int .i64 (colL l).2.2.1) fun v3 => Sh.St v3 ⟨w.heap.size, 15, none⟩ (.int .i64 (colL l).2.2.2.1) fun v4 => Sh.St v4 ⟨w.heap.size, 16, none⟩ (.int .i64 (colL l).2.2.2.2) fun v5 =>
          LdT v5 ⟨w.heap.size, 0, none⟩ 0 LG fun x30 => StT ⟨w2.heap.size, 0, none⟩ 0 LG x30 v5 fun v6 => LdT v6 ⟨w2.heap.size, 0, none⟩ 0 LG fun x32 => Rr x32 v6 := by
      intro Rr k
      change Hn w wc ((w.heap.size, Sig.cells LG x, 30) :: _) at H
      iterate 5 (refine H.st 0 rfl (by (repeat rw [List.length_set]); exact ltG x (by decide)) fun _ H => ?_; simp only [List.set_cons_zero, List.set_cons_succ] at H)
      rw [setF x (colL l)] at H
      refine ldG (H.get 0 rfl) ?_
      refine stG H (i := 1) rfl rfl fun w7 H7 => ?_
      simp only [List.set_cons_zero, List.set_cons_succ] at H7
      exact ldG (H7.get 1 rfl) (k w7 H7.ext)
    have goS : ∀ {Rr : G → World → Prop}, (∀ w7, Ext (fun _ => False) w w7 → Rr (upS x (colL l)) w7) →
        Sh.St wc ⟨w.heap.size, 17, none⟩ (.int .i64 (colL l).1) fun v1 => Sh.St v1 ⟨w.heap.size, 18, none⟩ (.int .i64 (colL l).2.1) fun v2 => Sh.St v2 ⟨w.heap.size, 19, none⟩ (.int .i64 (colL l).2.2.1) fun v3 => Sh.St v3 ⟨w.heap.size, 20, none⟩ (.int .i64 (colL l).2.2.2.1) fun v4 => Sh.St v4 ⟨w.heap.size, 21, none⟩ (.int .i64 (colL l).2.2.2.2) fun v5 =>
          LdT v5 ⟨w.heap.size, 0, none⟩ 0 LG fun x30 => StT ⟨w2.heap.size, 0, none⟩ 0 LG x30 v5 fun v6 => LdT v6 ⟨w2.heap.size, 0, none⟩ 0 LG fun x32 => Rr x32 v6 := by
      intro Rr k
      change Hn w wc ((w.heap.size, Sig.cells LG x, 30) :: _) at H
      iterate 5 (refine H.st 0 rfl (by (repeat rw [List.length_set]); exact ltG x (by decide)) fun _ H => ?_; simp only [List.set_cons_zero, List.set_cons_succ] at H)
      rw [setS x (colL l)] at H
      refine ldG (H.get 0 rfl) ?_
      refine stG H (i := 1) rfl rfl fun w7 H7 => ?_
      simp only [List.set_cons_zero, List.set_cons_succ] at H7
      exact ldG (H7.get 1 rfl) (k w7 H7.ext)
    refine BrB (fun q => ?_) fun q1 => ?_
    · iterate 5 refine H.ld 2 rfl rfl ?_
      exact goF fun w7 e7 => ⟨e7, by rw [if_pos rfl]; exact ⟨by trivial, by rw [if_pos (by rw [q]; decide)]⟩⟩
    refine BrB (fun q => ?_) fun q2 => ?_
    · iterate 5 refine H.ld 2 rfl rfl ?_
      exact goF fun w7 e7 => ⟨e7, by rw [if_pos rfl]; exact ⟨by trivial, by rw [if_pos (by rw [q]; decide)]⟩⟩
    refine BrB (fun q => ?_) fun q3 => ?_
    · iterate 5 refine H.ld 2 rfl rfl ?_
      exact goF fun w7 e7 => ⟨e7, by rw [if_pos rfl]; exact ⟨by trivial, by rw [if_pos (by rw [q]; decide)]⟩⟩
    · iterate 5 refine H.ld 2 rfl rfl ?_
      exact goS fun w7 e7 => ⟨e7, by rw [if_pos rfl]; exact ⟨by trivial, by rw [if_neg (by simp only [List.mem_cons, List.not_mem_nil, or_false, not_or]; exact ⟨q1, q2, q3⟩)]⟩⟩
end
end Ste
end Go.Proofs.YtjbeembbnkmpeaaDoor
/- The reference's state: dashes. Conditions: sizes. -/
namespace Go.Proofs.YtjbeembbnkmpeaaDoor
namespace Ste
open Sh Mat Opr
set_option linter.unusedVariables false
set_option linter.unusedSimpArgs false
set_option maxRecDepth 8000
set_option maxHeartbeats 8000000
theorem dshF_K (K : List Ob) (ph : Ob) : dshF K ph = (match dshK K with
    | .error e => .error e
    | .ok l => match abv ph with
      | .error e => .error e
      | .ok x => .ok (l, x)) := by
  unfold dshF dshK
  by_cases h1 : 32 < K.length
  · rw [if_pos h1, if_pos h1]
  · rw [if_neg h1, if_neg h1]
    by_cases h2 : K.all (fun k => k.1 == 2 || k.1 == 3) = false
    · rw [if_pos h2, if_pos h2]
    · rw [if_neg h2, if_neg h2]
      rfl
section
variable {w w1 w7 : World} {s n : Slc} {l : List Int} {L K : List Ob} {x : G} {D : List Int} {a d : ByteArray} {o : Ob}
attribute [local irreducible] Ld Sh.St Nw Nn LdS LdT LdST StT
theorem r_dash (hK : OV w o.2.2.2.2.2 K) : C173 o w fun r e w1 => Ext (fun _ => False) w w1 ∧ match dshK K with
    | .error e' => e = e' ∧ e ≠ 0
    | .ok l => e = 0 ∧ IO w w1 r l := by
  refine T173 o _ _ ?_
  unfold S173
  refine (Hn.start w).nw fun w2 H => ?_
  simp only [List.nil_append, add_lit, Nat.zero_add] at H ⊢
  have hlen := hK.1
  refine H.ld 0 rfl rfl ?_
  rw [hlen]
  unfold dshK
  refine Br.dec (fun q => ⟨H.ext, by rw [if_pos (by omega)]; exact ⟨by trivial, by decide⟩⟩) fun q => ?_
  have hk32 : K.length ≤ 32 := by omega
  rw [if_neg (by omega)]
  refine ⟨fun m st w3 => ∃ i : Nat, st = (i : Int) ∧ i ≤ K.length ∧ m = K.length - i ∧ w3 = w2 ∧ ∀ j k, j < i → K[j]? = some k → (k.1 == 2 || k.1 == 3) = true, K.length, ⟨0, rfl, by omega, rfl, rfl, fun j k hj => by omega⟩, ?_⟩
  rintro m st w3 ⟨i, rfl, hi, rfl, rfl, hall⟩
  unfold S173L2
  simp only [add_lit, Nat.zero_add]
  have hv := hK.keep H.ext
  refine H.ld 0 rfl rfl ?_
  rw [hlen]
  have hi1 : IntKind.i64.wrap ((i : Int) + 1) = ((i + 1 : Nat) : Int) := by rw [i64_id (by omega)]; rfl
  refine Br.dec (fun q => H.ld 0 rfl rfl ?_) fun q => ?_
  · have hlt : i < K.length := by omega
    have hk : K[i]? = some K[i] := List.getElem?_eq_getElem hlt
    obtain ⟨ad, ha, c0, c1, c2, c3, c4, c5⟩ := hv.get hk
    rw [hlen, ha, Int.toNat_natCast, hi1]
    have next : (K[i].1 == 2 || K[i].1 == 3) = true → ∃ m', m' < K.length - i ∧ ∃ k : Nat, (((i + 1 : Nat) : Int)) = (k : Int) ∧ k ≤ K.length ∧ m' = K.length - k ∧ w3 = w3 ∧ ∀ j k', j < k → K[j]? = some k' → (k'.1 == 2 || k'.1 == 3) = true := fun hh =>
      ⟨K.length - (i + 1), by omega, i + 1, rfl, by omega, rfl, rfl, fun j k' hj hk' => by
        by_cases hji : j = i
        · subst hji
          rw [hk] at hk'
          cases hk'
          exact hh
        · exact hall j k' (by omega) hk'⟩
    refine ⟨by omega, by omega, Nn.of (Ld.mk c0 (Br.ne (fun q2 => H.ld 0 rfl rfl ?_) fun q2 => ?_))⟩
    · rw [hlen, ha]
      refine ⟨by omega, by omega, Nn.of (Ld.mk c0 (Br.ne (fun q3 => ⟨H.ext, ?_⟩) fun q3 => ?_))⟩
      · have hbad : K.all (fun k => k.1 == 2 || k.1 == 3) = false := by
          rw [List.all_eq_false]
          exact ⟨K[i], List.getElem_mem hlt, by simp [q2, q3]⟩
        rw [if_pos hbad]
        exact ⟨by trivial, by decide⟩
      · simpa using next (by simp [q3])
    · simpa using next (by simp [q2])
  · have hyes : ¬ K.all (fun k => k.1 == 2 || k.1 == 3) = false := by
      rw [List.all_eq_false]
      rintro ⟨k, hk, hh⟩
      obtain ⟨j, hj⟩ := List.mem_iff_getElem?.1 hk
      exact hh (hall j k (by have := (List.getElem?_eq_some_iff.1 hj).1; omega) hj)
    rw [if_neg hyes]
    refine ⟨fun m st w4 => ∃ (i : Nat) (l : List Int), st.2 = (i : Int) ∧ i ≤ K.length ∧ m = K.length - i ∧ l.length ≤ i ∧ IO w3 w4 st.1 l ∧ Ext (fun _ => False) w3 w4 ∧ abvs K = (match abvs (K.drop i) with
      | .error e => .error e
      | .ok r => .ok (l ++ r)), K.length, ⟨0, [], rfl, by omega, rfl, Nat.le_refl _, IO.nil _ _, Ext.refl _ _, by rw [List.drop_zero]; cases abvs K <;> rfl⟩, ?_⟩
    have H2 := H
    clear H q hall hi hi1
    rintro m ⟨r, st⟩ w4 ⟨i, l, hst, hi, rfl, hll, ho, e34, hn⟩
    unfold S173L1
    dsimp only at *
    subst hst
    simp only [add_lit, Nat.zero_add]
    have H := H2.keep e34
    refine H.ld 0 rfl rfl ?_
    rw [hlen]
    refine Br.dec (fun q => H.ld 0 rfl rfl ?_) fun q => ?_
    · have hlt : i < K.length := by omega
      have hk : K[i]? = some K[i] := List.getElem?_eq_getElem hlt
      obtain ⟨ad, ha, c0, c1, c2, c3, c4, c5⟩ := (hv.keep e34).get hk
      rw [hlen, ha, Int.toNat_natCast]
      refine ⟨by omega, by omega, Nn.of (Ld.mk c0 (Ld.mk c1 (Ld.mk c2 (Ld.mk c3 (Ld.mk c4 (Ld.mk c5 ?_))))))⟩
      refine (r_number K[i] w4).mono ?_
      rintro v ok w5 ⟨hvv, e5⟩
      obtain ⟨s1, s2⟩ := abvs_step hk hn
      have er : ∀ e, abv K[i] = .error e → e = 2 := fun e => abv_e
      cases hx : numV K[i] with
      | none =>
        rw [hx] at hvv
        cases hvv
        refine Br.t rfl ⟨H.ext.tr e5, ?_⟩
        rw [s2 2 (by unfold abv num; rw [hx])]
        exact ⟨by trivial, by decide⟩
      | some y =>
        rw [hx] at hvv
        cases hvv
        refine Br.f rfl (Br.dec (fun q2 => ⟨H.ext.tr e5, ?_⟩) fun q2 => ?_)
        · rw [s2 2 (by unfold abv num; rw [hx]; exact if_neg (by omega))]
          exact ⟨by trivial, by decide⟩
        · refine IO.snoc (w0 := w3) ⟨ho.1.keep e5 fun _ _ e => e, ho.2⟩ (e34.tr e5) (by omega) fun r' w' ho' e' => ?_
          exact ⟨K.length - (i + 1), by omega, i + 1, l ++ [v], by rw [i64_id (by omega)]; rfl, by omega, rfl, by rw [List.length_append, List.length_singleton]; omega, ho', e', s1 v (by unfold abv num; rw [hx]; exact if_pos (by omega))⟩
    · have : i = K.length := by omega
      subst this
      rw [List.drop_length] at hn
      simp only [abvs, List.append_nil] at hn
      rw [hn]
      exact ⟨H.ext, by trivial, ho.1, fun j hj => by have := ho.2 j hj; have := H2.size; omega⟩
end
end Ste
end Go.Proofs.YtjbeembbnkmpeaaDoor

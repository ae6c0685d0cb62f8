/- The reference's objects: Num, Object, Read, Same. Conditions: sizes. -/
import Derived.Test.YtjlaijhmnlkpiaaLwM
namespace Go.Proofs.Ytjlaijhmnlkpiaa
namespace Mat
open Sh Fix
set_option linter.unusedVariables false
set_option linter.unusedSimpArgs false
set_option maxRecDepth 4000
set_option maxHeartbeats 2000000
theorem elI : El Try.prog 54 2 1 8 (.int .i64 0) := ⟨by kernel_rfl, by kernel_rfl, by kernel_rfl, by kernel_rfl, rfl⟩
theorem i64M_get {m : Mx} (h : i64M m) : (-9223372036854775808 ≤ m.1 ∧ m.1 ≤ 9223372036854775807) ∧ (-9223372036854775808 ≤ m.2.1 ∧ m.2.1 ≤ 9223372036854775807) ∧ (-9223372036854775808 ≤ m.2.2.1 ∧ m.2.2.1 ≤ 9223372036854775807) ∧ (-9223372036854775808 ≤ m.2.2.2.1 ∧ m.2.2.2.1 ≤ 9223372036854775807) ∧ (-9223372036854775808 ≤ m.2.2.2.2.1 ∧ m.2.2.2.2.1 ≤ 9223372036854775807) ∧ (-9223372036854775808 ≤ m.2.2.2.2.2 ∧ m.2.2.2.2.2 ≤ 9223372036854775807) :=
  ⟨h _ (by simp [comps]), h _ (by simp [comps]), h _ (by simp [comps]), h _ (by simp [comps]), h _ (by simp [comps]), h _ (by simp [comps])⟩
attribute [local irreducible] Ld St Nw Nn Lt LdS
theorem r_num {n : Int} (hn : -9223372036854775808 ≤ n ∧ n ≤ 9223372036854775807) (w : World) : C62 n w fun r w1 => r = numO n ∧ Ext (fun _ => False) w w1 := by
  refine T62 _ _ _ ?_
  unfold S62
  refine (Hn.start w).nw fun w2 H => ?_
  have htd := td n
  simp only [List.nil_append, List.cons_append, List.set_cons_zero, List.set_cons_succ, Nat.zero_add] at H
  refine Br.eq (fun h => ?_) fun h => ?_
  · rw [i64_id (by omega)]
    iterate 6 (refine H.st 0 rfl (by simp) fun _ H => ?_; simp only [List.nil_append, List.cons_append, List.set_cons_zero, List.set_cons_succ, Nat.zero_add] at H)
    iterate 6 refine H.ld 0 rfl rfl ?_
    exact ⟨by rw [numO, if_pos h], H.ext⟩
  · iterate 6 (refine H.st 0 rfl (by simp) fun _ H => ?_; simp only [List.nil_append, List.cons_append, List.set_cons_zero, List.set_cons_succ, Nat.zero_add] at H)
    iterate 6 refine H.ld 0 rfl rfl ?_
    exact ⟨by rw [numO, if_neg h], H.ext⟩
theorem r_objectC {m : Mx} (hm : i64M m) (w : World) :
    C34 m w fun r w1 => ∃ g, r = (6, 0, 0, ⟨#[]⟩, nilS, rowS g 6) ∧ Blk w1 g (((comps m).map numO).flatMap obrow).toArray 31 ∧ w.heap.size ≤ g ∧ Ext (fun _ => False) w w1 := by
  obtain ⟨m1, m2, m3, m4, m5, m6⟩ := i64M_get hm
  refine T34 m _ _ ?_
  unfold S34
  refine (Hn.start w).nw fun w2 H => H.nw fun w3 H => ?_
  let base : List (Nat × List Value × TypeId) := [(w.heap.size, mrow m, 23), (w2.heap.size, [.int .i64 0, .int .i64 0, .int .i64 0, .string ⟨#[]⟩, Slc.v nilS, Slc.v nilS], 31)]
  have H : Hn w w3.drew base := H.drew
  have hS : ∀ w3, Hn w w3 base → Blk w3 w.heap.size (mrow m).toArray 23 := fun w3 h => h.get 0 rfl
  refine ⟨fun w3 => Hn w w3 base, H, LdS.of hS rfl (LdS.of hS rfl (LdS.of hS rfl (LdS.of hS rfl (LdS.of hS rfl (LdS.of hS rfl ?_)))))⟩
  refine (r_num m1 _).mono ?_
  rintro r w4 ⟨rfl, he⟩
  have H := H.keep he
  refine ⟨H, (r_num m2 _).mono ?_⟩
  rintro r w4 ⟨rfl, he⟩
  have H := H.keep he
  refine ⟨H, (r_num m3 _).mono ?_⟩
  rintro r w4 ⟨rfl, he⟩
  have H := H.keep he
  refine ⟨H, (r_num m4 _).mono ?_⟩
  rintro r w4 ⟨rfl, he⟩
  have H := H.keep he
  refine ⟨H, (r_num m5 _).mono ?_⟩
  rintro r w4 ⟨rfl, he⟩
  have H := H.keep he
  refine ⟨H, (r_num m6 _).mono ?_⟩
  rintro r w4 ⟨rfl, he⟩
  have H := H.keep he
  refine H.nw (cs := ((comps m).map numO).flatMap obrow) fun w5 H => ?_
  generalize hM : ((comps m).map numO).flatMap obrow = M at H
  simp only [base, List.nil_append, List.cons_append] at H
  iterate 6 (refine H.st 1 rfl (by simp) fun _ H => ?_; simp only [List.nil_append, List.cons_append, List.set_cons_zero, List.set_cons_succ, Nat.zero_add] at H)
  iterate 6 refine H.ld 1 rfl rfl ?_
  have hb := H.get 2 rfl
  subst hM
  exact ⟨_, rfl, hb, H.ge 2 rfl, H.ext⟩
theorem r_read {o : Ob} {L : List Ob} {w : World} (hL : OV w o.2.2.2.2.2 L) : C23 o w fun r e w1 => (r, e) = readF o L ∧ Ext (fun _ => False) w w1 := by
  refine T23 o _ _ ?_
  unfold S23
  refine (Hn.start w).nw fun w2 H => H.nw fun w3 H => ?_
  simp only [List.nil_append, List.cons_append, List.set_cons_zero, List.set_cons_succ, Nat.zero_add] at H
  iterate 1 refine H.ld 0 rfl rfl ?_
  refine Br.ne (fun h => ?_) fun h => ?_
  · iterate 6 (refine H.st 1 rfl (by simp) fun _ H => ?_; simp only [List.nil_append, List.cons_append, List.set_cons_zero, List.set_cons_succ, Nat.zero_add] at H)
    iterate 6 refine H.ld 1 rfl rfl ?_
    refine ⟨?_, H.ext⟩
    unfold readF
    rw [if_pos h]
  iterate 1 refine H.ld 0 rfl rfl ?_
  have hlen := hL.1
  refine Br.ne (fun h6 => ?_) fun h6 => ?_
  · iterate 6 (refine H.st 1 rfl (by simp) fun _ H => ?_; simp only [List.nil_append, List.cons_append, List.set_cons_zero, List.set_cons_succ, Nat.zero_add] at H)
    iterate 6 refine H.ld 1 rfl rfl ?_
    refine ⟨?_, H.ext⟩
    unfold readF
    rw [if_neg (by omega), if_pos (by omega)]
  iterate 1 refine H.ld 0 rfl rfl ?_
  have hL6 : L.length = 6 := by omega
  let base : List (Nat × List Value × TypeId) := [(w.heap.size, obrow o, 31), (w2.heap.size, [.int .i64 0, .int .i64 0, .int .i64 0, .int .i64 0, .int .i64 0, .int .i64 0], 23)]
  have H : Hn w w3 base := H
  refine ⟨fun n st w7 => ∃ i : Nat, st.2 = (i : Int) ∧ i ≤ 6 ∧ n = 6 - i ∧ (∀ j, j < i → (numV (L.getD j ob0)).isSome = true) ∧ Hn w w7 base ∧ st.1.len = i ∧ Row w7 st.1 2 1 ((List.range i).map fun j => .int .i64 (kidN L j)) ∧ (∀ j, st.1.own j → w.heap.size ≤ j ∧ j ∉ [w.heap.size, w2.heap.size]),
    6, ⟨0, rfl, by omega, rfl, fun j hj => by omega, H, rfl, Row.nil _ _ _, fun j ⟨a, ha, _⟩ => by cases ha⟩, ?_⟩
  rintro n ⟨s, st⟩ w7 ⟨i, hst, hi, rfl, hall, H, hsl, hrow, hown⟩
  simp only at hst hsl hrow hown
  subst hst
  unfold S23L1
  dsimp only
  rw [hlen, hL6]
  refine Br.dec (fun e => ⟨by omega, by omega, ?_⟩) fun e => ?_
  · have hi6 : i < 6 := by omega
    have hLi : L[i]? = some L[i] := List.getElem?_eq_getElem (by omega)
    obtain ⟨p, hp, k0, k1, k2, k3, k4, k5⟩ := (hL.keep H.ext).get hLi
    rw [hp, Int.toNat_natCast]
    refine Nn.of (Ld.mk k0 (Ld.mk k1 (Ld.mk k2 (Ld.mk k3 (Ld.mk k4 (Ld.mk k5 ?_))))))
    have H0 := H
    refine (Hn.start w7).nw fun w8 K => ?_
    simp only [List.nil_append] at K
    iterate 6 (refine K.st 0 rfl (by simp) fun _ K => ?_; simp only [List.set_cons_zero, List.set_cons_succ, Nat.zero_add] at K)
    iterate 6 refine K.ld 0 rfl rfl ?_
    refine (r_number L[i] _).mono ?_
    rintro v b w9 ⟨hvb, he⟩
    have K := K.keep he
    have H := H0.keep K.ext
    have hrow9 := hrow.keep K.ext fun _ _ h => h
    have hgi : L.getD i ob0 = L[i] := by rw [List.getD_eq_getElem?_getD, hLi]; rfl
    cases hn : numV L[i] with
    | none =>
      rw [hn] at hvb
      cases hvb
      refine Br_of (fun _ => ?_) fun h => by cases h
      simp only [base] at H
      iterate 6 (refine H.st 1 rfl (by simp) fun _ H => ?_; simp only [List.nil_append, List.cons_append, List.set_cons_zero, List.set_cons_succ, Nat.zero_add] at H)
      iterate 6 refine H.ld 1 rfl rfl ?_
      refine ⟨?_, H.ext⟩
      rw [readF_bad (by omega) hL6 (readK_no (List.getElem_mem (by omega : i < L.length)) hn)]
    | some x =>
      rw [hn] at hvb
      cases hvb
      refine Br_of (fun h => by cases h) fun _ => ?_
      have hkid : kidN L i = v := by unfold kidN; rw [hgi, hn]; rfl
      refine K.nw' fun w10 K he10 => ?_
      obtain ⟨x, w11, hrun, hr8, hl8, he8, ho8⟩ := elI.app1 (ty := 54) (hrow9.keep he10 fun _ _ h => h) (K.get 1 rfl) rfl (fun v hv => by rw [List.mem_singleton] at hv; subst hv; rfl) (by omega) (by omega)
      refine ⟨x, w11, hrun, 6 - (i + 1), by omega, i + 1, by rw [i64_id (by omega)]; rfl, by omega, rfl, fun j hj => ?_, (H.keep he10).other he8 hown, by omega, ?_, fun j hj => ?_⟩
      · by_cases hji : j = i
        · rw [hji, hgi, hn]; rfl
        · exact hall j (by omega)
      · rw [List.range_succ, List.map_append, ← hkid] at *
        exact hr8
      · rcases ho8 j hj with h | h
        · exact hown j h
        · have h1 := H.lt 0 rfl
          have h2 := H.lt 1 rfl
          have h3 := H.size
          have h4 := he10.size
          refine ⟨by omega, ?_⟩
          simp
          omega
  · have hi6 : i = 6 := by omega
    subst hi6
    have hc : ∀ j, j < 6 → ((List.range 6).map fun j => Value.int .i64 (kidN L j))[j]? = some (.int .i64 (kidN L j)) := fun j hj => by simp [List.getElem?_range, hj]
    obtain ⟨g, hp, c0⟩ := hrow.cell (hc 0 (by omega))
    have gt : ∀ j, j < 6 → w7.cell? ⟨g, j, none⟩ = some (.int .i64 (kidN L j)) := fun j hj => by
      obtain ⟨g', hp', c⟩ := hrow.cell (hc j hj)
      rw [hp] at hp'
      cases hp'
      exact c
    rw [hp, hsl]
    refine ⟨by omega, by omega, Nn.of (Ld.mk (gt 0 (by omega)) ?_)⟩
    refine ⟨by omega, by omega, Nn.of (Ld.mk (gt 1 (by omega)) ?_)⟩
    refine ⟨by omega, by omega, Nn.of (Ld.mk (gt 2 (by omega)) ?_)⟩
    refine ⟨by omega, by omega, Nn.of (Ld.mk (gt 3 (by omega)) ?_)⟩
    refine ⟨by omega, by omega, Nn.of (Ld.mk (gt 4 (by omega)) ?_)⟩
    refine ⟨by omega, by omega, Nn.of (Ld.mk (gt 5 (by omega)) ?_)⟩
    have H := H.drew
    simp only [base] at H
    iterate 6 (refine H.st 1 rfl (by simp) fun _ H => ?_; simp only [List.nil_append, List.cons_append, List.set_cons_zero, List.set_cons_succ, Nat.zero_add] at H)
    iterate 6 refine H.ld 1 rfl rfl ?_
    refine ⟨?_, H.ext⟩
    have hr : readF o L = ((kidN L 0, kidN L 1, kidN L 2, kidN L 3, kidN L 4, kidN L 5), 0) := by
      unfold readF
      rw [if_neg (by omega), if_neg (by omega), readK_yes hL6 hall]
    rw [hr]
theorem c_texts (w : World) : C57 nilS nilS w fun r w1 => r = true ∧ w1 = w := by
  refine T57 _ _ _ _ ?_
  unfold S57
  refine Br.f rfl ⟨fun n st w7 => st = 0 ∧ w7 = w, 0, ⟨rfl, rfl⟩, ?_⟩
  rintro n st w7 ⟨rfl, rfl⟩
  unfold S57L1
  exact Br.f rfl ⟨rfl, rfl⟩
theorem c_list0 (w : World) : C58 nilS nilS w fun r w1 => r = true ∧ w1 = w := by
  refine T58 _ _ _ _ ?_
  unfold S58
  refine Br.f rfl ⟨fun n st w7 => st = 0 ∧ w7 = w, 0, ⟨rfl, rfl⟩, ?_⟩
  rintro n st w7 ⟨rfl, rfl⟩
  unfold S58L1
  exact Br.f rfl ⟨rfl, rfl⟩
/-- A leaf is the same as itself. -/
theorem c_same0 {o : Ob} (ho : leaf o) (w : World) : C32 o o w fun r w1 => r = true ∧ Ext (fun _ => False) w w1 := by
  refine T32 o o _ _ ?_
  unfold S32
  refine (Hn.start w).nw fun w2 H => H.nw fun w3 H => ?_
  simp only [List.nil_append, List.cons_append, List.set_cons_zero, List.set_cons_succ, Nat.zero_add] at H
  refine H.ld 0 rfl rfl (H.ld 1 rfl rfl (Br.t (by simp) ?_))
  refine H.ld 0 rfl rfl (H.ld 1 rfl rfl (Br.t (by simp) ?_))
  refine H.ld 0 rfl rfl (H.ld 1 rfl rfl (Br.t (by simp) ?_))
  refine H.ld 0 rfl rfl (H.ld 1 rfl rfl (Br.t (by simp) ?_))
  refine H.ld 0 rfl rfl (H.ld 1 rfl rfl ?_)
  rw [ho.1]
  refine (c_texts _).mono ?_
  rintro r _ ⟨rfl, rfl⟩
  refine Br.t rfl ?_
  refine H.ld 0 rfl rfl (H.ld 1 rfl rfl ?_)
  rw [ho.2]
  refine (c_list0 _).mono ?_
  rintro r _ ⟨rfl, rfl⟩
  exact ⟨rfl, H.ext⟩
theorem c_list {s t : Slc} {L : List Ob} {w : World} (hs : OV w s L) (ht : OV w t L) (hl : ∀ o ∈ L, leaf o) (hn : L.length ≤ 1000000) : C58 s t w fun r w1 => r = true ∧ Ext (fun _ => False) w w1 := by
  refine T58 _ _ _ _ ?_
  unfold S58
  rw [hs.1, ht.1]
  refine Br.f (by simp) ⟨fun n st w7 => ∃ i : Nat, st = (i : Int) ∧ i ≤ L.length ∧ n = L.length - i ∧ Ext (fun _ => False) w w7, L.length, ⟨0, rfl, by omega, rfl, Ext.refl _ _⟩, ?_⟩
  rintro n st w7 ⟨i, rfl, hi, rfl, he⟩
  unfold S58L1
  rw [hs.1, ht.1]
  refine Br.dec (fun e => ⟨by omega, by omega, ?_⟩) fun e => ⟨rfl, he⟩
  have hlt : i < L.length := by omega
  have hLi : L[i]? = some L[i] := List.getElem?_eq_getElem hlt
  obtain ⟨p, hp, k0, k1, k2, k3, k4, k5⟩ := (hs.keep he.drew).get hLi
  obtain ⟨q, hq, j0, j1, j2, j3, j4, j5⟩ := (ht.keep he.drew).get hLi
  rw [hp, hq, Int.toNat_natCast]
  refine Nn.of (Ld.mk k0 (Ld.mk k1 (Ld.mk k2 (Ld.mk k3 (Ld.mk k4 (Ld.mk k5 ⟨by omega, by omega, Nn.of (Ld.mk j0 (Ld.mk j1 (Ld.mk j2 (Ld.mk j3 (Ld.mk j4 (Ld.mk j5 ?_)))))) ⟩))))))
  refine (c_same0 (hl L[i] (List.getElem_mem hlt)) _).mono ?_
  rintro r w8 ⟨rfl, he8⟩
  refine Br.f rfl ⟨L.length - (i + 1), by omega, i + 1, by rw [i64_id (by omega)]; rfl, by omega, rfl, he.drew.tr he8⟩
theorem c_same {s t : Slc} {L : List Ob} {w : World} (hs : OV w s L) (ht : OV w t L) (hl : ∀ o ∈ L, leaf o) (hn : L.length ≤ 1000000) : C32 (6, 0, 0, ⟨#[]⟩, nilS, s) (6, 0, 0, ⟨#[]⟩, nilS, t) w fun r w1 => r = true ∧ Ext (fun _ => False) w w1 := by
  refine T32 (6, 0, 0, ⟨#[]⟩, nilS, s) (6, 0, 0, ⟨#[]⟩, nilS, t) _ _ ?_
  unfold S32
  refine (Hn.start w).nw fun w2 H => H.nw fun w3 H => ?_
  simp only [List.nil_append, List.cons_append, List.set_cons_zero, List.set_cons_succ, Nat.zero_add] at H
  refine H.ld 0 rfl rfl (H.ld 1 rfl rfl (Br.t (by simp) ?_))
  refine H.ld 0 rfl rfl (H.ld 1 rfl rfl (Br.t (by simp) ?_))
  refine H.ld 0 rfl rfl (H.ld 1 rfl rfl (Br.t (by simp) ?_))
  refine H.ld 0 rfl rfl (H.ld 1 rfl rfl (Br.t (by simp) ?_))
  refine H.ld 0 rfl rfl (H.ld 1 rfl rfl ?_)
  refine (c_texts _).mono ?_
  rintro r _ ⟨rfl, rfl⟩
  refine Br.t rfl ?_
  refine H.ld 0 rfl rfl (H.ld 1 rfl rfl ?_)
  refine (c_list (hs.keep H.ext) (ht.keep H.ext) hl hn).mono ?_
  rintro r _ ⟨rfl, he⟩
  exact ⟨rfl, (H.keep he).ext⟩
/-- The kids of an object, to depth d: keys and kids can be read. -/
def OT (w : World) : Nat → Ob → Prop
  | 0, _ => False
  | d + 1, o => (∃ K : List ByteArray, K.length ≤ maxLen ∧ o.2.2.2.2.1.len = K.length ∧ ∀ (i : Nat) (b : ByteArray), K[i]? = some b → ∃ a, o.2.2.2.2.1.p = some a ∧ w.cell? (a.add i) = some (.string b)) ∧
    ∃ L : List Ob, L.length ≤ maxLen ∧ OV w o.2.2.2.2.2 L ∧ ∀ o' ∈ L, OT w d o'
theorem OT.mono {w : World} : ∀ (d : Nat) (o : Ob), OT w d o → OT w (d + 1) o
  | 0, _, h => h.elim
  | d + 1, o, h => by
    obtain ⟨h1, L, h2, h3, h4⟩ := h
    exact ⟨h1, L, h2, h3, fun o' ho => OT.mono d o' (h4 o' ho)⟩
theorem c_size {w0 : World} : ∀ (d : Nat) (o : Ob) (w : World), OT w0 d o → Ext (fun _ => False) w0 w → C12 o w fun r w1 => Ext (fun _ => False) w w1
  | 0, _, _, h, _ => h.elim
  | d + 1, o, w, h, he0 => by
    obtain ⟨⟨K, hK, hKl, hKc⟩, L, hLl, hL, hT⟩ := h
    have hmax : maxLen ≤ 9223372036854775807 := by decide
    refine T12 o _ _ ?_
    unfold S12
    refine (Hn.start w).nw fun w2 H => ?_
    simp only [List.nil_append, List.cons_append, List.set_cons_zero, List.set_cons_succ, Nat.zero_add] at H
    iterate 2 refine H.ld 0 rfl rfl ?_
    refine ⟨fun n st w7 => ∃ i : Nat, st.2 = (i : Int) ∧ i ≤ K.length ∧ n = K.length - i ∧ w7 = w2, K.length, ⟨0, rfl, by omega, rfl, rfl⟩, ?_⟩
    rintro n ⟨z, st⟩ w7 ⟨i, hst, hi, rfl, rfl⟩
    simp only at hst
    subst hst
    unfold S12L2
    dsimp only
    rw [hKl]
    refine Br.dec (fun e => ⟨by omega, by omega, ?_⟩) fun e => ?_
    · have hlt : i < K.length := by omega
      obtain ⟨a, ha, hc⟩ := hKc i _ (List.getElem?_eq_getElem hlt)
      rw [ha, Int.toNat_natCast, Nat.mul_one]
      refine Nn.of (Ld.mk ((he0.tr H.ext).cell_same hc) ?_)
      exact ⟨K.length - (i + 1), by omega, i + 1, by rw [i64_id (by omega)]; rfl, by omega, rfl, rfl⟩
    · iterate 1 refine H.ld 0 rfl rfl ?_
      refine ⟨fun n st w8 => ∃ i : Nat, st.2 = (i : Int) ∧ i ≤ L.length ∧ n = L.length - i ∧ Ext (fun _ => False) w w8, L.length, ⟨0, rfl, by omega, rfl, H.ext⟩, ?_⟩
      rintro n ⟨z, st⟩ w8 ⟨i, hst, hi, rfl, he⟩
      simp only at hst
      subst hst
      unfold S12L1
      dsimp only
      rw [hL.1]
      refine Br.dec (fun e => ⟨by omega, by omega, ?_⟩) fun e => he
      have hlt : i < L.length := by omega
      have hLi : L[i]? = some L[i] := List.getElem?_eq_getElem hlt
      obtain ⟨p, hp, k0, k1, k2, k3, k4, k5⟩ := (hL.keep (he0.tr he)).get hLi
      rw [hp, Int.toNat_natCast]
      refine Nn.of (Ld.mk k0 (Ld.mk k1 (Ld.mk k2 (Ld.mk k3 (Ld.mk k4 (Ld.mk k5 ?_))))))
      refine (Hn.start w8).nw fun w9 K => ?_
      simp only [List.nil_append] at K
      iterate 6 (refine K.st 0 rfl (by simp) fun _ K => ?_; simp only [List.set_cons_zero, List.set_cons_succ, Nat.zero_add] at K)
      iterate 6 refine K.ld 0 rfl rfl ?_
      refine (c_size d L[i] _ (hT _ (List.getElem_mem hlt)) (he0.tr (he.tr K.ext))).mono ?_
      rintro r w10 he10
      exact ⟨L.length - (i + 1), by omega, i + 1, by rw [i64_id (by omega)]; rfl, by omega, rfl, he.tr (K.ext.tr he10)⟩
end Mat
end Go.Proofs.Ytjlaijhmnlkpiaa

/- Matrices and objects: Array, matrix.Object, matrix.Read. Conditions: sizes. -/
import Derived.Test.YtjlaijhmnlkpiaaOb
namespace Go.Proofs.Ytjlaijhmnlkpiaa
namespace Mat
open Sh Fix
set_option linter.unusedVariables false
set_option linter.unusedSimpArgs false
set_option maxRecDepth 4000
set_option maxHeartbeats 1000000

theorem OV.nil (w : World) : OV w nilS [] := ⟨rfl, rfl, fun j v h => by cases h⟩
def i64M (m : Mx) : Prop := ∀ x ∈ comps m, -9223372036854775808 ≤ x ∧ x ≤ 9223372036854775807
/-- The result of reading a matrix. -/
def readK (L : List Ob) : Option Mx := if (L.all fun o => (numV o).isSome) = true then
  some ((numV (L.getD 0 ob0)).getD 0, (numV (L.getD 1 ob0)).getD 0, (numV (L.getD 2 ob0)).getD 0, (numV (L.getD 3 ob0)).getD 0, (numV (L.getD 4 ob0)).getD 0, (numV (L.getD 5 ob0)).getD 0) else none
def readF (o : Ob) (L : List Ob) : Mx × Int := if o.1 ≠ 6 then ((0, 0, 0, 0, 0, 0), 10) else if L.length ≠ 6 then ((0, 0, 0, 0, 0, 0), 3) else match readK L with
  | some m => (m, 0)
  | none => ((0, 0, 0, 0, 0, 0), 3)
attribute [local irreducible] Ld St Nw Nn Lt LdS
theorem c_cloneO {s : Slc} {L : List Ob} {w : World} (hL : OV w s L) (hs : s.p ≠ none) (hl : ∀ o ∈ L, leaf o) (hn : L.length ≤ 1000000) :
    C90 (6, 0, 0, ⟨#[]⟩, nilS, s) w fun r w1 => ∃ g, r = (6, 0, 0, ⟨#[]⟩, nilS, rowS g L.length) ∧ Blk w1 g (L.flatMap obrow).toArray 31 ∧ w.heap.size ≤ g ∧ Ext (fun _ => False) w w1 := by
  refine T90 (6, 0, 0, ⟨#[]⟩, nilS, s) _ _ ?_
  unfold S90
  refine (Hn.start w).nw fun w2 H => H.nw fun w3 H => ?_
  simp only [List.nil_append, List.cons_append, List.set_cons_zero, List.set_cons_succ, Nat.zero_add] at H
  iterate 6 refine H.ld 0 rfl rfl ?_
  refine (c_changed1 (hL.keep H.ext) hs hl hn).mono ?_
  rintro r w4 ⟨g, rfl, hb, hg, he⟩
  have hne : g ∉ [w.heap.size, w2.heap.size] := by
    have h1 := H.lt 0 rfl
    have h2 := H.lt 1 rfl
    simp
    omega
  have hsz := H.size
  have H := (H.keep he).push hb (by omega) hne
  generalize hM : L.flatMap obrow = M at H
  simp only [List.nil_append, List.cons_append, List.set_cons_zero, List.set_cons_succ, Nat.zero_add] at H
  iterate 6 (refine H.st 1 rfl (by simp) fun _ H => ?_; simp only [List.nil_append, List.cons_append, List.set_cons_zero, List.set_cons_succ, Nat.zero_add] at H)
  iterate 6 refine H.ld 1 rfl rfl ?_
  have hb := H.get 2 rfl
  subst hM
  exact ⟨_, rfl, hb, H.ge 2 rfl, H.ext⟩
theorem c_array {s : Slc} {L : List Ob} {w : World} (hL : OV w s L) (hs : s.p ≠ none) (hl : ∀ o ∈ L, leaf o) (hn : L.length ≤ 1000000) :
    C61 s w fun r w1 => ∃ g, r = (6, 0, 0, ⟨#[]⟩, nilS, rowS g L.length) ∧ Blk w1 g (L.flatMap obrow).toArray 31 ∧ w.heap.size ≤ g ∧ Ext (fun _ => False) w w1 := by
  refine T61 _ _ _ ?_
  unfold S61
  refine (Hn.start w).nw fun w2 H => ?_
  refine (c_cloneO (hL.keep H.ext) hs hl hn).mono ?_
  rintro r w4 ⟨g, rfl, hb, hg, he⟩
  have hne : g ∉ [w.heap.size] := by
    have h1 := H.lt 0 rfl
    simp
    omega
  have hsz := H.size
  have H := (H.keep he).push hb (by omega) hne
  generalize hM : L.flatMap obrow = M at H
  simp only [List.nil_append, List.cons_append, List.set_cons_zero, List.set_cons_succ, Nat.zero_add] at H
  iterate 6 (refine H.st 0 rfl (by simp) fun _ H => ?_; simp only [List.nil_append, List.cons_append, List.set_cons_zero, List.set_cons_succ, Nat.zero_add] at H)
  iterate 6 refine H.ld 0 rfl rfl ?_
  have hb := H.get 1 rfl
  subst hM
  exact ⟨_, rfl, hb, H.ge 1 rfl, H.ext⟩
theorem num_leaf (n : Int) : leaf (numO n) := by
  unfold numO
  split <;> exact ⟨rfl, rfl⟩
theorem c_objectC {m : Mx} (hm : i64M m) (w : World) :
    C33 m w fun r w1 => ∃ g, r = (6, 0, 0, ⟨#[]⟩, nilS, rowS g 6) ∧ Blk w1 g (((comps m).map numO).flatMap obrow).toArray 31 ∧ w.heap.size ≤ g ∧ Ext (fun _ => False) w w1 := by
  refine T33 _ _ _ ?_
  unfold S33
  refine (Hn.start w).nw fun w2 H => H.nw fun w3 H => ?_
  simp only [List.nil_append, List.cons_append, List.set_cons_zero, List.set_cons_succ, Nat.zero_add] at H
  refine (c_parts H).mono ?_
  rintro r w4 ⟨rfl, he⟩
  have H := H.keep he
  refine ⟨fun n st w5 => ∃ i : Nat, st.2 = (i : Int) ∧ i ≤ 6 ∧ n = 6 - i ∧ Hn w w5 [(w.heap.size, mrow m, 23), (w2.heap.size, obrow ob0, 31)] ∧ st.1.len = i ∧ Row w5 st.1 31 6 ((((comps m).map numO).take i).flatMap obrow) ∧ (∀ j, st.1.own j → w.heap.size ≤ j ∧ j ∉ [w.heap.size, w2.heap.size]),
    6, ⟨0, rfl, by omega, rfl, H, rfl, Row.nil _ _ _, fun j ⟨a, ha, _⟩ => by cases ha⟩, ?_⟩
  rintro n ⟨s, st⟩ w5 ⟨i, hst, hi, rfl, H, hsl, hrow, hown⟩
  simp only at hst hsl hrow hown
  subst hst
  unfold S33L1
  dsimp only
  have hnorm : ∀ {w6 : World} {o : Ob}, Ext (fun _ => False) w5 w6 → i < 6 → ((comps m).map numO)[i]? = some o → Nw w6 (.cells #[.int .i64 (o.1), .int .i64 (o.2.1), .int .i64 (o.2.2.1), .string o.2.2.2.1, Slc.v o.2.2.2.2.1, Slc.v o.2.2.2.2.2] 31) fun w7 =>
      Rn Try.prog (Builtin.append_ #[29, 29] 29 #[Slc.v s, Slc.v ((⟨some ⟨w6.heap.size, 0, none⟩, 1, 1⟩ : Slc))]) w7 Slc.v fun (x : Slc) w8 =>
      ∃ n', n' < 6 - i ∧ ∃ i' : Nat, IntKind.i64.wrap ((i : Int) + 1) = (i' : Int) ∧ i' ≤ 6 ∧ n' = 6 - i' ∧ Hn w w8 [(w.heap.size, mrow m, 23), (w2.heap.size, obrow ob0, 31)] ∧ x.len = i' ∧ Row w8 x 31 6 ((((comps m).map numO).take i').flatMap obrow) ∧ (∀ j, x.own j → w.heap.size ≤ j ∧ j ∉ [w.heap.size, w2.heap.size]) := by
    intro w6 o he6 hi6 ho
    refine (H.keep he6).nw' fun w7 H7 he7 => ?_
    obtain ⟨x, w8, hrun, hr8, hl8, he8, ho8⟩ := elOb.app1 (ty := 29) ((hrow.keep he6 fun _ _ h => h).keep he7 fun _ _ h => h) (H7.get 2 rfl) rfl (ob_one o) (by omega) (by omega)
    refine ⟨x, w8, hrun, 6 - (i + 1), by omega, i + 1, by rw [i64_id (by omega)]; rfl, by omega, rfl, H7.left.other he8 hown, by omega, ?_, fun j hj => ?_⟩
    · rw [List.take_add_one, ho, List.flatMap_append]
      simpa [obrow] using hr8
    · rcases ho8 j hj with h | h
      · exact hown j h
      · have h1 := H7.lt 0 rfl
        have h2 := H7.lt 1 rfl
        have h3 := H7.size
        refine ⟨by omega, ?_⟩
        simp
        omega
  refine Br.dec (fun e => ⟨by omega, by omega, ?_⟩) fun e => ?_
  · have hi6 : i < 6 := by omega
    have hx : ∃ x, (comps m)[i]? = some x ∧ ∃ a, (#[.pointer (some ⟨w.heap.size, 0, none⟩), .pointer (some ⟨w.heap.size, 1, none⟩), .pointer (some ⟨w.heap.size, 2, none⟩), .pointer (some ⟨w.heap.size, 3, none⟩), .pointer (some ⟨w.heap.size, 4, none⟩), .pointer (some ⟨w.heap.size, 5, none⟩)] : Array Value)[((i : Int)).toNat * 1]? = some (.pointer (some a)) ∧ ∀ K : Int → Prop, K x → Ld w5 a (Value.int .i64) K := by
      have hc : i = 0 ∨ i = 1 ∨ i = 2 ∨ i = 3 ∨ i = 4 ∨ i = 5 := by omega
      rcases hc with rfl | rfl | rfl | rfl | rfl | rfl <;> exact ⟨_, rfl, _, rfl, fun K hK => H.ld 0 rfl rfl hK⟩
    obtain ⟨x, hx, a, ha, hld⟩ := hx
    have hxr := hm x (List.mem_of_getElem? hx)
    have ho : ((comps m).map numO)[i]? = some (numO x) := by rw [List.getElem?_map, hx]; rfl
    refine ⟨some a, ha, Nn.of (hld _ ?_)⟩
    have htd := td x
    refine Br.eq (fun h => Nn.of (hld _ ((c_int _ _).mono ?_))) fun h => Nn.of (hld _ ((c_real _ _).mono ?_))
    · rintro o w6 ⟨rfl, he6⟩
      refine hnorm he6 hi6 ?_
      rw [ho, numO, if_pos h, i64_id (by omega)]
    · rintro o w6 ⟨rfl, he6⟩
      refine hnorm he6 hi6 ?_
      rw [ho, numO, if_neg h]
  · have hi6 : i = 6 := by omega
    subst hi6
    have hall : ((comps m).map numO).take 6 = (comps m).map numO := rfl
    rw [hall] at hrow
    have hs : s.p ≠ none := by
      obtain ⟨g, hg, _⟩ := hrow.cell (j := 0) (v := .int .i64 (numO m.1).1) rfl
      rw [hg]
      simp
    refine (c_array (L := (comps m).map numO) ⟨hsl, hrow.view⟩ hs (fun o ho => by obtain ⟨x, _, rfl⟩ := List.mem_map.1 ho; exact num_leaf x) (by show 6 ≤ 1000000; omega)).mono ?_
    rintro r w6 ⟨g, rfl, hb, hg, he⟩
    have hne : g ∉ [w.heap.size, w2.heap.size] := by
      have h1 := H.lt 0 rfl
      have h2 := H.lt 1 rfl
      simp
      omega
    have hsz := H.size
    have H := (H.keep he).push hb (by omega) hne
    generalize hM : ((comps m).map numO).flatMap obrow = M at H
    simp only [List.cons_append, List.nil_append, obrow, ob0] at H
    iterate 6 (refine H.st 1 rfl (by simp) fun _ H => ?_; simp only [List.nil_append, List.cons_append, List.set_cons_zero, List.set_cons_succ, Nat.zero_add] at H)
    iterate 6 refine H.ld 1 rfl rfl ?_
    have hb := H.get 2 rfl
    subst hM
    exact ⟨_, rfl, hb, H.ge 2 rfl, H.ext⟩
def vals (f : Nat → Int) (i : Nat) : List Value := (List.range 6).map fun j => .int .i64 (if j < i then f j else 0)
theorem vals_set {f : Nat → Int} {i : Nat} (hi : i < 6) : (vals f i).set i (.int .i64 (f i)) = vals f (i + 1) := by
  have hc : i = 0 ∨ i = 1 ∨ i = 2 ∨ i = 3 ∨ i = 4 ∨ i = 5 := by omega
  rcases hc with rfl | rfl | rfl | rfl | rfl | rfl <;> rfl
/-- The numbers of the kids. -/
def kidN (L : List Ob) (i : Nat) : Int := (numV (L.getD i ob0)).getD 0
theorem readK_yes {L : List Ob} (hL : L.length = 6) (h : ∀ j, j < 6 → (numV (L.getD j ob0)).isSome = true) : readK L = some (kidN L 0, kidN L 1, kidN L 2, kidN L 3, kidN L 4, kidN L 5) := by
  unfold readK
  rw [if_pos]
  · rfl
  · rw [List.all_eq_true]
    intro o ho
    obtain ⟨i, hi, rfl⟩ := List.mem_iff_getElem.1 ho
    have := h i (by omega)
    rwa [List.getD_eq_getElem?_getD, List.getElem?_eq_getElem hi] at this
theorem readK_no {L : List Ob} {o : Ob} (h : o ∈ L) (hn : numV o = none) : readK L = none := by
  unfold readK
  rw [if_neg]
  intro h2
  have := List.all_eq_true.1 h2 o h
  rw [hn] at this
  cases this
theorem readF_bad {o : Ob} {L : List Ob} (h6 : o.1 = 6) (hl : L.length = 6) (h : readK L = none) : readF o L = ((0, 0, 0, 0, 0, 0), 3) := by
  unfold readF
  rw [if_neg (by omega), if_neg (by omega), h]
theorem c_read {o : Ob} {L : List Ob} {w : World} (hL : OV w o.2.2.2.2.2 L) : C22 o w fun r e w1 => (r, e) = readF o L ∧ Ext (fun _ => False) w w1 := by
  refine T22 o _ _ ?_
  unfold S22
  refine (Hn.start w).nw fun w2 H => H.nw fun w3 H => ?_
  simp only [List.nil_append, List.cons_append, List.set_cons_zero, List.set_cons_succ, Nat.zero_add] at H
  iterate 1 refine H.ld 0 rfl rfl ?_
  refine Br.ne (fun h => ?_) fun h => ?_
  · iterate 6 (refine H.st 1 rfl (by simp) fun _ H => ?_; simp only [List.nil_append, List.cons_append, List.set_cons_zero, List.set_cons_succ, Nat.zero_add] at H)
    iterate 6 refine H.ld 1 rfl rfl ?_
    refine ⟨?_, H.ext⟩
    unfold readF
    rw [if_pos h]
  refine H.nw fun w4 H => ?_
  simp only [List.nil_append, List.cons_append, List.set_cons_zero, List.set_cons_succ, Nat.zero_add] at H
  refine (c_parts H).mono ?_
  rintro r w5 ⟨rfl, he⟩
  have H := H.keep he
  refine H.nw fun w6 H => ?_
  simp only [List.nil_append, List.cons_append, List.set_cons_zero, List.set_cons_succ, Nat.zero_add] at H
  iterate 6 (refine H.st 3 rfl (by simp) fun _ H => ?_; simp only [List.nil_append, List.cons_append, List.set_cons_zero, List.set_cons_succ, Nat.zero_add] at H)
  iterate 1 refine H.ld 0 rfl rfl ?_
  have hlen := hL.1
  refine Br.ne (fun h6 => ?_) fun h6 => ?_
  · iterate 6 (refine H.st 1 rfl (by simp) fun _ H => ?_; simp only [List.nil_append, List.cons_append, List.set_cons_zero, List.set_cons_succ, Nat.zero_add] at H)
    iterate 6 refine H.ld 1 rfl rfl ?_
    refine ⟨?_, H.ext⟩
    unfold readF
    rw [if_neg (by omega), if_pos (by omega)]
  iterate 1 refine H.ld 0 rfl rfl ?_
  have hL6 : L.length = 6 := by omega
  rename_i wq
  refine ⟨fun n st w7 => ∃ i : Nat, st = (i : Int) ∧ i ≤ 6 ∧ n = 6 - i ∧ (∀ j, j < i → (numV (L.getD j ob0)).isSome = true) ∧ Hn w w7 [(w.heap.size, obrow o, 31), (w2.heap.size, [.int .i64 0, .int .i64 0, .int .i64 0, .int .i64 0, .int .i64 0, .int .i64 0], 23), (w3.heap.size, vals (kidN L) i, 23),
      (w5.heap.size, [.pointer (some ⟨w3.heap.size, 0, none⟩), .pointer (some ⟨w3.heap.size, 1, none⟩), .pointer (some ⟨w3.heap.size, 2, none⟩), .pointer (some ⟨w3.heap.size, 3, none⟩), .pointer (some ⟨w3.heap.size, 4, none⟩), .pointer (some ⟨w3.heap.size, 5, none⟩)], 82)],
    6, ⟨0, rfl, by omega, rfl, fun j hj => by omega, H⟩, ?_⟩
  rintro n st w7 ⟨i, rfl, hi, rfl, hall, H⟩
  unfold S22L1
  rw [hlen, hL6]
  refine Br.dec (fun e => ⟨by omega, by omega, ?_⟩) fun e => ?_
  · have hi6 : i < 6 := by omega
    have hLi : L[i]? = some L[i] := List.getElem?_eq_getElem (by omega)
    obtain ⟨p, hp, k0, k1, k2, k3, k4, k5⟩ := (hL.keep H.ext).get hLi
    rw [hp, Int.toNat_natCast]
    refine Nn.of (Ld.mk k0 (Ld.mk k1 (Ld.mk k2 (Ld.mk k3 (Ld.mk k4 (Ld.mk k5 ?_))))))
    refine H.nw fun w8 H => ?_
    simp only [List.cons_append, List.nil_append] at H
    iterate 6 (refine H.st 4 rfl (by simp) fun _ H => ?_; simp only [List.nil_append, List.cons_append, List.set_cons_zero, List.set_cons_succ, Nat.zero_add] at H)
    iterate 6 refine H.ld 4 rfl rfl ?_
    refine (c_number L[i] _).mono ?_
    rintro v b w9 ⟨hvb, he⟩
    have H := (H.keep he).left (L := [_, _, _, _]) (M := [_])
    have hgi : L.getD i ob0 = L[i] := by rw [List.getD_eq_getElem?_getD, hLi]; rfl
    cases hn : numV L[i] with
    | none =>
      rw [hn] at hvb
      cases hvb
      refine Br_of (fun _ => ?_) fun h => by cases h
      iterate 6 (refine H.st 1 rfl (by simp) fun _ H => ?_; simp only [List.nil_append, List.cons_append, List.set_cons_zero, List.set_cons_succ, Nat.zero_add] at H)
      iterate 6 refine H.ld 1 rfl rfl ?_
      refine ⟨?_, H.ext⟩
      rw [readF_bad (by omega) hL6 (readK_no (List.getElem_mem (by omega : i < L.length)) hn)]
    | some x =>
      rw [hn] at hvb
      cases hvb
      refine Br_of (fun h => by cases h) fun _ => ⟨by omega, by omega, ?_⟩
      have hkid : kidN L i = v := by unfold kidN; rw [hgi, hn]; rfl
      have fin : ∀ {w10 : World}, Hn w w10 [(w.heap.size, obrow o, 31), (w2.heap.size, [.int .i64 0, .int .i64 0, .int .i64 0, .int .i64 0, .int .i64 0, .int .i64 0], 23), (w3.heap.size, (vals (kidN L) i).set i (.int .i64 v), 23),
          (w5.heap.size, [.pointer (some ⟨w3.heap.size, 0, none⟩), .pointer (some ⟨w3.heap.size, 1, none⟩), .pointer (some ⟨w3.heap.size, 2, none⟩), .pointer (some ⟨w3.heap.size, 3, none⟩), .pointer (some ⟨w3.heap.size, 4, none⟩), .pointer (some ⟨w3.heap.size, 5, none⟩)], 82)] →
          ∃ n', n' < 6 - i ∧ ∃ i' : Nat, IntKind.i64.wrap ((i : Int) + 1) = (i' : Int) ∧ i' ≤ 6 ∧ n' = 6 - i' ∧ (∀ j, j < i' → (numV (L.getD j ob0)).isSome = true) ∧ Hn w w10 [(w.heap.size, obrow o, 31), (w2.heap.size, [.int .i64 0, .int .i64 0, .int .i64 0, .int .i64 0, .int .i64 0, .int .i64 0], 23), (w3.heap.size, vals (kidN L) i', 23),
          (w5.heap.size, [.pointer (some ⟨w3.heap.size, 0, none⟩), .pointer (some ⟨w3.heap.size, 1, none⟩), .pointer (some ⟨w3.heap.size, 2, none⟩), .pointer (some ⟨w3.heap.size, 3, none⟩), .pointer (some ⟨w3.heap.size, 4, none⟩), .pointer (some ⟨w3.heap.size, 5, none⟩)], 82)] := by
        intro w10 H
        rw [← hkid, vals_set hi6] at H
        refine ⟨6 - (i + 1), by omega, i + 1, by rw [i64_id (by omega)]; rfl, by omega, rfl, fun j hj => ?_, H⟩
        by_cases hji : j = i
        · rw [hji, hgi, hn]; rfl
        · exact hall j (by omega)
      have hc : i = 0 ∨ i = 1 ∨ i = 2 ∨ i = 3 ∨ i = 4 ∨ i = 5 := by omega
      rcases hc with rfl | rfl | rfl | rfl | rfl | rfl <;> exact H.ld 3 rfl rfl (Nn.of (H.st 2 rfl (by simp [vals]) fun w10 H => fin H))
  · have hi6 : i = 6 := by omega
    subst hi6
    iterate 6 refine H.ld 2 rfl rfl ?_
    iterate 6 (refine H.st 1 rfl (by simp) fun _ H => ?_; simp only [List.nil_append, List.cons_append, List.set_cons_zero, List.set_cons_succ, Nat.zero_add] at H)
    iterate 6 refine H.ld 1 rfl rfl ?_
    refine ⟨?_, H.ext⟩
    have hr : readF o L = ((kidN L 0, kidN L 1, kidN L 2, kidN L 3, kidN L 4, kidN L 5), 0) := by
      unfold readF
      rw [if_neg (by omega), if_neg (by omega), readK_yes hL6 hall]
    rw [hr]
    rfl
end Mat
end Go.Proofs.Ytjlaijhmnlkpiaa

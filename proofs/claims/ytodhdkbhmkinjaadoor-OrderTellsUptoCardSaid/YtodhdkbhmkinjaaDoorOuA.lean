/- The reference's order: the small functions. Conditions: sizes. -/
import Derived.Test.YtodhdkbhmkinjaaDoorOtA
import Derived.Test.YtodhdkbhmkinjaaDoorFnOr3
import Derived.Test.YtodhdkbhmkinjaaDoorOtE
namespace Go.Proofs.YtodhdkbhmkinjaaDoor
namespace Rdg
open Sh
set_option linter.unusedVariables false
set_option linter.unusedSimpArgs false
set_option maxRecDepth 4000
set_option maxHeartbeats 2000000
attribute [local irreducible] Ld St Nw Nn Lt LdS
theorem GsV.keepG {w w' : World} {s : Slc} {L : List Sg} (h : GsV w s L) (he : Ext (fun _ => False) w w') : GsV w' s L := ⟨h.row.keep he, h.ok, h.lets, h.most⟩
theorem ldS_ext {α : Type} {w0 : World} {V : α → Value} {K : α → Prop} {x : α} {a : Addr} (h : w0.cell? a = some (V x)) (k : K x) : LdS (Ext (fun _ => False) w0) a V K := ldS_mk (fun _ e => e.cell_same h) k
theorem LdST.at {S : World → Prop} {a : Addr} : ∀ (ts : List Ty1) (i : Nat) (x : Sig ts) (K : Sig ts → Prop), (∀ w, S w → ∀ j v, (Sig.cells ts x)[j]? = some v → w.cell? (a.add (i + j)) = some v) → K x → LdST S a i ts K
  | [], i, x, K, h, hk => hk
  | [t], i, x, K, h, hk => ldS_mk (x := x) (fun w hw => by have := h w hw 0 _ rfl; simpa using this) hk
  | t :: u :: r, i, x, K, h, hk => ldS_mk (x := x.1) (fun w hw => by have := h w hw 0 _ rfl; simpa using this) (LdST.at (u :: r) (i + 1) x.2 (fun y => K (x.1, y)) (fun w hw j v hj => by
      have := h w hw (j + 1) v (by simpa [Sig.cells] using hj)
      rw [show i + 1 + j = i + (j + 1) by omega]
      exact this) hk)
theorem ldGS {w0 : World} {a : Addr} {g : Sg} {K : TyA31 → Prop} (h : ∀ j v, (gcells g)[j]? = some v → w0.cell? (a.add j) = some v) (k : K (gt g)) : LdST (Ext (fun _ => False) w0) a 0 LiA31 K := LdST.at LiA31 0 (gt g) K (fun w e j v hj => by rw [Nat.zero_add]; exact e.cell_same (h j v hj)) k
theorem c_held (n : Int) (w : World) : C27 n w fun r w1 => r = bd n ∧ w1 = w := by
  refine T27 _ _ _ ?_
  unfold S27
  refine Lt.of ⟨?_, rfl⟩
  unfold bd
  split <;> split <;> omega
theorem c_high (g : Sg) (w : World) : C28 (gt g) w fun r w1 => r = max (bd g.hi) 0 ∧ Ext (fun _ => False) w w1 := by
  refine T28 (gt g) _ _ ?_
  unfold S28
  refine (Hn.start w).nw fun w2 H => ?_
  have H : Hn w w2 [(w.heap.size, gcells g, 32)] := H
  refine H.ld 0 rfl (x := g.hi) rfl ?_
  refine (c_held g.hi _).mono ?_
  rintro r w9 ⟨rfl, rfl⟩
  exact ⟨by split <;> omega, H.ext⟩
theorem c_RBox (g : Sg) (w : World) : C12 (gt g) w fun r w1 => r = (clampS g 0).box ∧ Ext (fun _ => False) w w1 := by
  refine T12 (gt g) _ _ ?_
  unfold S12
  refine (Hn.start w).nw fun w2 H => ?_
  refine H.nw fun w3 H => ?_
  have H : Hn w w3 [(w.heap.size, gcells g, 32), (w2.heap.size, [.int .i64 0, .int .i64 0, .int .i64 0, .int .i64 0], 27)] := H
  have H := H.drew
  have hb := H.get 0 rfl
  have cl : ∀ {j : Nat} {v : Value}, (gcells g)[j]? = some v → w3.drew.cell? ((⟨w.heap.size, 0, none⟩ : Addr).add j) = some v := fun hj => by rw [add_lit, Nat.zero_add, hb.cell]; simpa using hj
  simp only [add_add']
  refine ⟨Ext (fun _ => False) w3.drew, Ext.refl _ _, ?_⟩
  refine ldS_ext (x := g.fx) (cl rfl) (ldS_ext (x := g.tx) (cl rfl) (ldS_ext (x := g.fy) (cl rfl) (ldS_ext (x := g.ty) (cl rfl) ?_)))
  refine (c_held g.fx _).mono ?_
  rintro r9 w10 ⟨rfl, rfl⟩
  refine ⟨Ext.refl _ _, (c_held g.tx _).mono ?_⟩
  rintro r11 w12 ⟨rfl, rfl⟩
  refine ⟨Ext.refl _ _, (c_held g.fy _).mono ?_⟩
  rintro r13 w14 ⟨rfl, rfl⟩
  refine ⟨Ext.refl _ _, (c_held g.ty _).mono ?_⟩
  rintro r15 w16 ⟨rfl, rfl⟩
  refine ldG H 0 rfl ?_
  refine (c_high g _).mono ?_
  rintro r18 w19 ⟨rfl, e19⟩
  have H := H.keep e19
  iterate 4 (refine H.st 1 rfl (by simp) fun _ H => ?_; simp only [List.nil_append, List.cons_append, List.set_cons_zero, List.set_cons_succ, Nat.zero_add] at H)
  iterate 4 refine H.ld 1 rfl rfl ?_
  refine ⟨?_, H.ext⟩
  obtain ⟨h1, h2, h3, h4, h5⟩ := clamp_cl g 0
  have e1 : ∀ p q : Int, (if q < p then q else p) = min p q := fun p q => by split <;> omega
  have e2 : ∀ p q : Int, (if q > p then q else p) = max p q := fun p q => by split <;> omega
  have d1 : (clampS g 0).fy = bd g.fy := rfl
  have d2 : (clampS g 0).ty = bd g.ty := rfl
  have d3 : (clampS g 0).hi = max (bd g.hi) 0 := rfl
  rw [d1] at h2
  rw [d2] at h4
  rw [d3] at h5
  rw [e1, e1, e2, e2, i64_id (by omega)]
  rfl
theorem c_both (a b : R4) (w : World) : C50 a b w fun r w1 => r = both a b ∧ Ext (fun _ => False) w w1 := by
  refine T50 a b _ _ ?_
  unfold S50
  refine (Hn.start w).nw fun w3 H => ?_
  refine H.nw fun w4 H => ?_
  refine H.nw fun w5 H => ?_
  simp only [List.nil_append, List.cons_append] at H
  refine H.ld 0 rfl (x := a.1) rfl (H.ld 1 rfl (x := b.1) rfl (H.ld 0 rfl (x := a.2.1) rfl (H.ld 1 rfl (x := b.2.1) rfl (H.ld 0 rfl (x := a.2.2.1) rfl (H.ld 1 rfl (x := b.2.2.1) rfl (H.ld 0 rfl (x := a.2.2.2) rfl (H.ld 1 rfl (x := b.2.2.2) rfl ?_)))))))
  iterate 4 (refine H.st 2 rfl (by simp) fun _ H => ?_; simp only [List.nil_append, List.cons_append, List.set_cons_zero, List.set_cons_succ, Nat.zero_add] at H)
  iterate 4 refine H.ld 2 rfl rfl ?_
  refine ⟨?_, H.ext⟩
  have e1 : ∀ p q : Int, (if q < p then q else p) = min p q := fun p q => by split <;> omega
  have e2 : ∀ p q : Int, (if q > p then q else p) = max p q := fun p q => by split <;> omega
  rw [e1, e1, e2, e2]
  rfl
theorem c_Rblank {s : ByteArray} (hs : s.size ≤ 9223372036854775807 - 1) (w : World) : C49 s w fun r w1 => r = blankL s.data.toList ∧ w1 = w := by
  refine T49 _ _ _ ?_
  unfold S49
  have hsl : s.data.toList.length = s.size := Array.length_toList
  refine ⟨fun m st w1 => ∃ i : Nat, st = (i : Int) ∧ i ≤ s.size ∧ m = s.size - i ∧ blankL (s.data.toList.drop i) = blankL s.data.toList ∧ w1 = w, s.size, ⟨0, rfl, Nat.zero_le _, rfl, rfl, rfl⟩, ?_⟩
  rintro m st w3 ⟨i, rfl, hi, rfl, hb, rfl⟩
  unfold S49L1
  refine Br.dec (fun q => ?_) fun q => ?_
  · have hil : i < s.data.toList.length := by omega
    have hbt := bAt_list s i
    rw [List.getD_eq_getElem?_getD, List.getElem?_eq_getElem hil, Option.getD_some] at hbt
    rw [List.drop_eq_getElem_cons hil] at hb
    generalize s.data.toList[i] = c at *
    rw [hbt]
    have hcs : blankL (c :: s.data.toList.drop (i + 1)) = (isWs c && blankL (s.data.toList.drop (i + 1))) := rfl
    rw [hcs] at hb
    have ne : ∀ k : UInt8, (((c.toNat : Int) != (k.toNat : Int)) = !(c == k)) := fun k => by
      by_cases e : c = k
      · subst e
        show (!((c.toNat : Int) == (c.toNat : Int))) = _
        rw [beq_self_eq_true, beq_self_eq_true]
      · have h1 : ((c.toNat : Int) == (k.toNat : Int)) = false := beq_false_of_ne fun h => e (UInt8.toNat_inj.1 (by omega))
        show (!((c.toNat : Int) == (k.toNat : Int))) = _
        rw [h1, beq_false_of_ne e]
    have n9 := ne 9
    have n10 := ne 10
    have n13 := ne 13
    have n32 := ne 32
    have next : isWs c = true → ∃ n', n' < s.size - i ∧ ∃ i_1 : Nat, IntKind.i64.wrap ((i : Int) + 1) = (i_1 : Int) ∧ i_1 ≤ s.size ∧ n' = s.size - i_1 ∧ blankL (s.data.toList.drop i_1) = blankL s.data.toList ∧ w3 = w3 := fun h =>
      ⟨s.size - (i + 1), by omega, i + 1, by rw [i64_id (by omega)]; rfl, by omega, rfl, by rw [← hb, h, Bool.true_and], rfl⟩
    have b1 : (0 : Int) ≤ (i : Int) := by omega
    have b2 : (i : Int) < ((s.size : Nat) : Int) := by omega
    refine ⟨b1, b2, ?_⟩
    cases h9 : (c == 9) with
    | true => exact Br.f (by rw [show (9 : Int) = ((9 : UInt8).toNat : Int) from rfl, n9, h9]; rfl) (next (by unfold isWs; rw [h9]; rfl))
    | false =>
    refine Br.t (by rw [show (9 : Int) = ((9 : UInt8).toNat : Int) from rfl, n9, h9]; rfl) ⟨b1, b2, ?_⟩
    cases h10 : (c == 10) with
    | true => exact Br.f (by rw [show (10 : Int) = ((10 : UInt8).toNat : Int) from rfl, n10, h10]; rfl) (next (by unfold isWs; rw [h9, h10]; rfl))
    | false =>
    refine Br.t (by rw [show (10 : Int) = ((10 : UInt8).toNat : Int) from rfl, n10, h10]; rfl) ⟨b1, b2, ?_⟩
    cases h13 : (c == 13) with
    | true => exact Br.f (by rw [show (13 : Int) = ((13 : UInt8).toNat : Int) from rfl, n13, h13]; rfl) (next (by unfold isWs; rw [h9, h10, h13]; rfl))
    | false =>
    refine Br.t (by rw [show (13 : Int) = ((13 : UInt8).toNat : Int) from rfl, n13, h13]; rfl) ⟨b1, b2, ?_⟩
    cases h32 : (c == 32) with
    | true => exact Br.f (by rw [show (32 : Int) = ((32 : UInt8).toNat : Int) from rfl, n32, h32]; rfl) (next (by unfold isWs; rw [h9, h10, h13, h32]; rfl))
    | false =>
    refine Br.t (by rw [show (32 : Int) = ((32 : UInt8).toNat : Int) from rfl, n32, h32]; rfl) ⟨?_, rfl⟩
    have : isWs c = false := by unfold isWs; rw [h9, h10, h13, h32]; rfl
    rw [← hb, this]
    rfl
  · have : i = s.data.toList.length := by omega
    subst this
    rw [List.drop_length] at hb
    exact ⟨hb, rfl⟩
/-! ### Places in the list -/
def acells (x : Sg) : List Value := [.int .i64 (x.at' : Int)]
theorem acells_len (x : Sg) : (acells x).length = 1 := rfl
theorem acells_one (x : Sg) : ∀ v ∈ acells x, v.oneCell' = true := fun v hv => by
  simp only [acells, List.mem_cons, List.not_mem_nil, or_false] at hv
  subst hv
  rfl
theorem elI : El Tryd.prog 54 3 1 8 (.int .i64 0) := ⟨by kernel_rfl, by kernel_rfl, by kernel_rfl, by kernel_rfl, rfl⟩
/-- The sign comes from the glyph at its place. -/
def Pl (L : List Sg) (x : Sg) : Prop := ∃ g, L[x.at']? = some g ∧ x = clampS g x.at'
theorem allN_pl : ∀ (i : Nat) (L : List Sg), ∀ x ∈ allN i L, i ≤ x.at' ∧ ∃ g, L[x.at' - i]? = some g ∧ x = clampS g x.at'
  | i, [], x, h => by cases h
  | i, g :: r, x, h => by
    rw [allN_cons] at h
    rcases List.mem_append.1 h with h | h
    · split at h
      · cases h
      · rw [List.mem_singleton] at h
        subst h
        exact ⟨Nat.le_refl _, g, by rw [show (clampS g i).at' = i from rfl, Nat.sub_self]; rfl, rfl⟩
    · obtain ⟨h1, g', h2, h3⟩ := allN_pl (i + 1) r x h
      refine ⟨by omega, g', ?_, h3⟩
      rw [show x.at' - i = x.at' - (i + 1) + 1 by omega, List.getElem?_cons_succ]
      exact h2
theorem allF_pl {L : List Sg} {x : Sg} (h : x ∈ allF L) : Pl L x := by
  obtain ⟨_, g, h1, h2⟩ := allN_pl 0 L x h
  exact ⟨g, h1, h2⟩
/-- Insertion, where the place is found. -/
theorem insR_at {α : Type} {lt : α → α → Bool} {x : α} : ∀ {P Q : List α}, (∀ y ∈ P, lt x y = true) → (∀ y, Q.head? = some y → lt x y = false) → insR lt x (P ++ Q) = P ++ x :: Q
  | [], [], _, _ => rfl
  | [], y :: r, _, h => by
    have := h y rfl
    unfold insR
    rw [List.nil_append]
    dsimp only
    rw [if_neg (by rw [this]; decide)]
    rfl
  | y :: P, Q, hp, h => by
    have h1 := hp y List.mem_cons_self
    rw [List.cons_append]
    unfold insR
    rw [if_pos h1, insR_at (fun z hz => hp z (List.mem_cons_of_mem _ hz)) h]
    rfl
theorem ins_at {lt : Sg → Sg → Bool} {l : List Sg} {x : Sg} {k : Nat} (hk : k ≤ (sortI lt l).length) (h1 : ∀ y ∈ (sortI lt l).drop k, lt x y = true) (h2 : ∀ y, 0 < k → (sortI lt l)[k - 1]? = some y → lt x y = false) : sortI lt (l ++ [x]) = (sortI lt l).take k ++ x :: (sortI lt l).drop k := by
  rw [sortI_snoc]
  generalize sortI lt l = A at *
  have e : A.reverse = (A.drop k).reverse ++ (A.take k).reverse := by rw [← List.reverse_append, List.take_append_drop]
  rw [e, insR_at (fun y hy => h1 y (List.mem_reverse.1 hy)) fun y hy => ?_]
  · rw [List.reverse_append, List.reverse_cons, List.reverse_reverse, List.reverse_reverse, List.append_assoc]
    rfl
  · rw [List.head?_reverse, List.getLast?_eq_getElem?, List.length_take, Nat.min_eq_left hk] at hy
    by_cases h0 : 0 < k
    · rw [List.getElem?_take_of_lt (by omega)] at hy
      exact h2 y h0 hy
    · have : k = 0 := by omega
      subst this
      simp at hy
end Rdg
end Go.Proofs.YtodhdkbhmkinjaaDoor
/- The reference's order: falling. Conditions: sizes. -/
namespace Go.Proofs.YtodhdkbhmkinjaaDoor
namespace Rdg
open Sh
set_option linter.unusedVariables false
set_option linter.unusedSimpArgs false
set_option maxRecDepth 4000
set_option maxHeartbeats 2000000
attribute [local irreducible] Ld St Nw Nn Lt LdS
/-- A place of a row of places is written. -/
theorem row_set {w : World} {s : Slc} {B : List Sg} {k : Nat} {X : Sg} {K : World → Prop} (h : Row w s 3 1 (B.flatMap acells)) (hk : k < B.length) {a : Addr} (ha : s.p = some a)
    (kk : ∀ w', Row w' s 3 1 ((B.set k X).flatMap acells) → Ext s.own w w' → K w') : St w (a.add (k * 1)) (.int .i64 (X.at' : Int)) K := by
  have e : B.flatMap acells = [] ++ B.flatMap acells := rfl
  have hm : ∀ l : List Sg, l.flatMap acells = l.map fun x => Value.int .i64 (x.at' : Int) := fun l => by
    induction l with
    | nil => rfl
    | cons x l ih => rw [List.flatMap_cons, ih]; rfl
  rw [e] at h
  obtain ⟨g, hg, hst⟩ := row_st (v := .int .i64 (X.at' : Int)) (j := k) (K := K) h (by rw [hm, List.length_map]; exact hk) fun w' h' e' => kk w' (by rw [hm, List.map_set, ← hm]; exact h') e'
  rw [ha] at hg
  cases hg
  rw [add_lit, Nat.zero_add, Nat.mul_one]
  rw [List.length_nil, Nat.zero_add] at hst
  exact hst
theorem set_mid {α : Type} {A : List α} {k : Nat} (hk : k ≤ A.length) (h x : α) : (A.take k ++ h :: A.drop k).set k x = A.take k ++ x :: A.drop k := by
  have hl : (A.take k).length = k := by rw [List.length_take]; omega
  rw [List.set_append_right _ _ (by omega), hl, Nat.sub_self]
  rfl
theorem mid_len {α : Type} {A : List α} {k : Nat} (hk : k ≤ A.length) (h : α) : (A.take k ++ h :: A.drop k).length = A.length + 1 := by
  rw [List.length_append, List.length_cons, List.length_take, List.length_drop]
  omega
theorem mid_before {α : Type} {A : List α} {k : Nat} (hk : k ≤ A.length) (h0 : 0 < k) (h : α) : (A.take k ++ h :: A.drop k)[k - 1]? = some (A[k - 1]'(by omega)) := by
  rw [List.getElem?_append_left (by rw [List.length_take]; omega), List.getElem?_take_of_lt (by omega), List.getElem?_eq_getElem (by omega)]
/-- The element before goes one place on. -/
theorem mid_shift {α : Type} {A : List α} {k : Nat} (hk : k ≤ A.length) (h0 : 0 < k) : A.take k ++ (A[k - 1]'(by omega)) :: A.drop k = A.take (k - 1) ++ (A[k - 1]'(by omega)) :: A.drop (k - 1) := by
  obtain ⟨j, rfl⟩ : ∃ j, k = j + 1 := ⟨k - 1, by omega⟩
  have hj : j < A.length := hk
  show A.take (j + 1) ++ A[j] :: A.drop (j + 1) = A.take j ++ A[j] :: A.drop j
  conv => rhs; rw [List.drop_eq_getElem_cons hj]
  rw [take_one hj, List.append_assoc]
  rfl
theorem drop_shift {A : List Sg} {k : Nat} (hk : k ≤ A.length) (h0 : 0 < k) {p : Sg → Prop} (h1 : ∀ y ∈ A.drop k, p y) (h2 : p (A[k - 1]'(by omega))) : ∀ y ∈ A.drop (k - 1), p y := by
  obtain ⟨j, rfl⟩ : ∃ j, k = j + 1 := ⟨k - 1, by omega⟩
  have hj : j < A.length := hk
  intro y hy
  rw [show j + 1 - 1 = j from rfl, List.drop_eq_getElem_cons hj] at hy
  rcases List.mem_cons.1 hy with rfl | hy
  · exact h2
  · exact h1 y hy
theorem row_cap {w : World} {s : Slc} {e : TypeId} {k : Nat} {xs : List Value} (h : Row w s e k xs) : s.len ≤ s.cap := by
  rcases h.2 with rfl | ⟨g, cur, hp, hg, hle, _⟩
  · exact Nat.le_refl _
  · exact hle
theorem c_falling {w : World} {s : Slc} {L : List Sg} (hG : GsV w s L) : C26 s w fun r w1 => (VRow w1 r 1 ((sortI ltY (allF L)).flatMap acells) ∧ r.len ≤ r.cap ∧ ∀ j, r.own j → j < w1.heap.size) ∧ Ext (fun _ => False) w w1 := by
  have hlen : s.len = L.length := VRow.count gcells_len (by decide) hG.row
  have hmost := hG.most
  refine T26 _ _ _ ?_
  unfold S26
  refine ⟨fun m st w1 => ∃ i : Nat, st.2 = (i : Int) ∧ i ≤ L.length ∧ m = L.length - i ∧ Row w1 st.1 3 1 ((sortI ltY (allF (L.take i))).flatMap acells) ∧ (∀ j, st.1.own j → w.heap.size ≤ j) ∧ Ext (fun _ => False) w w1, L.length, ⟨0, rfl, Nat.zero_le _, rfl, Row.nil _ _ _, fun j hj => (no_own j hj).elim, Ext.refl _ _⟩, ?_⟩
  rintro m ⟨so, i'⟩ w3 ⟨i, hi', hi, rfl, hR, ho, e3⟩
  simp only at hi' hR ho
  subst hi'
  unfold S26L2
  dsimp only
  rw [hlen]
  refine Br.dec (fun q => ?_) fun q => ?_
  · have hil : i < L.length := by omega
    obtain ⟨a, ha, hc⟩ := VRow.elem gcells_len (hG.row.keep e3) (List.getElem?_eq_getElem hil) (by decide)
    have hsn := allF_snoc hil
    have hmem : ∀ y ∈ sortI ltY (allF (L.take i)), y.at' < i ∧ ∃ g, L[y.at']? = some g ∧ y = clampS g y.at' := fun y hy => by
      have hy := (sortI_perm ltY _).mem_iff.1 hy
      obtain ⟨g, h1, h2⟩ := allF_pl hy
      have hlt := (List.getElem?_eq_some_iff.1 h1).1
      rw [List.length_take] at hlt
      have hlt : y.at' < i := by omega
      rw [List.getElem?_take_of_lt hlt] at h1
      exact ⟨hlt, g, h1, h2⟩
    have hAl : (sortI ltY (allF (L.take i))).length ≤ i := by
      have h1 := (sortI_perm ltY (allF (L.take i))).length_eq
      have h2 := allN_len 0 (L.take i)
      rw [List.length_take] at h2
      unfold allF at h1 ⊢
      omega
    have hins := fun k => ins_at (lt := ltY) (l := allF (L.take i)) (x := clampS L[i] i) (k := k)
    have gi : L[i]? = some L[i] := List.getElem?_eq_getElem hil
    generalize L[i] = g at *
    rw [ha, Int.toNat_natCast]
    have b1 : (0 : Int) ≤ (i : Int) := by omega
    have b2 : (i : Int) < ((L.length : Nat) : Int) := by omega
    refine ⟨b1, b2, Nn.of (Ld.mk (x := g.s) (by rw [add_add']; exact hc 1 _ rfl) ?_)⟩
    have hgs : g.s.data.toList.length = g.s.size := Array.length_toList
    by_cases h0 : g.s.size = 0
    · rw [if_pos h0, List.append_nil] at hsn
      have hnil : g.s.data.toList = [] := List.length_eq_zero_iff.1 (by omega)
      refine Br.t (by rw [eqL, hnil]; rfl) ⟨L.length - (i + 1), by omega, i + 1, by rw [i64_id (by omega)]; rfl, hil, rfl, ?_, ho, e3⟩
      rw [hsn]
      exact hR
    · rw [if_neg h0] at hsn
      refine Br.f (by
        rw [eqL]
        refine decide_eq_false fun h => h0 ?_
        have : g.s.data.toList = [] := h
        rw [← hgs, this]
        rfl) (Nw.of ?_)
      have hso : so.len = (sortI ltY (allF (L.take i))).length := VRow.count acells_len (by decide) (Row.view hR)
      have e1 := (Ext.refl (fun _ => False) w3).alloc (.cells (acells (clampS g i)).toArray 3)
      obtain ⟨s', w', hrun, hrow, hlen', hext, hown⟩ := elI.app1 (ty := 54) (ys := acells (clampS g i)) (hR.keep e1 fun _ _ e => e) (Blk.new w3 (acells (clampS g i)).toArray 3) rfl (acells_one _) (by omega) (by omega)
      have hown' : ∀ j, s'.own j → w.heap.size ≤ j := fun j hj => by
        rcases hown j hj with e | e
        · exact ho j e
        · have := (e3.tr e1).size
          omega
      have E' : Ext (fun _ => False) w w' := ext_new (e3.tr e1) hext ho
      generalize hA : sortI ltY (allF (L.take i)) = A at *
      have hrow' : Row w' s' 3 1 ((A.take A.length ++ clampS g i :: A.drop A.length).flatMap acells) := by
        rw [List.take_length, List.drop_length, List.flatMap_append]
        simpa using hrow
      refine ⟨s', w', hrun, ?_⟩
      rw [hso]
      refine ⟨fun m st w1 => ∃ (k : Nat) (h : Sg), st = (k : Int) ∧ k ≤ A.length ∧ k = m ∧ Row w1 s' 3 1 ((A.take k ++ h :: A.drop k).flatMap acells) ∧ (∀ y ∈ A.drop k, ltY (clampS g i) y = true) ∧ Ext (fun _ => False) w w1, A.length, ⟨A.length, _, rfl, Nat.le_refl _, rfl, hrow', fun y hy => (by rw [List.drop_length] at hy; cases hy), E'⟩, ?_⟩
      clear hrun hrow hrow' E' hR hext
      rintro m st w13 ⟨k, h, rfl, hk, rfl, hR, hdr, e13⟩
      unfold S26L1
      dsimp only
      have hlen2 : s'.len = A.length + 1 := by
        have := VRow.count acells_len (by decide) (Row.view hR)
        rw [this, mid_len hk]
      have hRd := hR.keep (Ext.refl (fun _ => False) w13).drew fun _ _ e => e
      have e13d := e13.drew
      rw [hlen, hlen2]
      have b5 : (0 : Int) ≤ (k : Int) := by omega
      have b6 : (k : Int) < ((A.length + 1 : Nat) : Int) := by omega
      have hp : ∃ a', s'.p = some a' := by
        obtain ⟨a', ha', _⟩ := VRow.elem acells_len (Row.view hR) (i := k) (x := h) (by rw [List.getElem?_append_right (by rw [List.length_take]; omega), List.length_take, Nat.min_eq_left hk, Nat.sub_self]; rfl) (by decide)
        exact ⟨a', ha'⟩
      obtain ⟨a', ha'⟩ := hp
      -- the new one is put down
      have place : ∀ {w0 : World}, Row w0 s' 3 1 ((A.take k ++ h :: A.drop k).flatMap acells) → Ext (fun _ => False) w w0 → (∀ y, 0 < k → A[k - 1]? = some y → ltY (clampS g i) y = false) →
          St w0 (a'.add ((k : Int).toNat * 1)) (.int .i64 (i : Int)) fun vw42 => ∃ n', n' < L.length - i ∧ ∃ i_1 : Nat, (s', IntKind.i64.wrap ((i : Int) + 1)).2 = (i_1 : Int) ∧ i_1 ≤ L.length ∧ n' = L.length - i_1 ∧ Row vw42 (s', IntKind.i64.wrap ((i : Int) + 1)).1 3 1 ((sortI ltY (allF (L.take i_1))).flatMap acells) ∧ (∀ j, (s', IntKind.i64.wrap ((i : Int) + 1)).1.own j → w.heap.size ≤ j) ∧ Ext (fun _ => False) w vw42 := fun {w0} hR0 e0 hst => by
        rw [Int.toNat_natCast]
        refine row_set (X := clampS g i) hR0 (by rw [mid_len hk]; omega) ha' fun w' h' e' => ?_
        refine ⟨L.length - (i + 1), by omega, i + 1, by dsimp only; rw [i64_id (by omega)]; rfl, hil, rfl, ?_, hown', ext_new e0 e' hown'⟩
        rw [hsn, hins k hk hdr hst]
        rw [set_mid hk] at h'
        exact h'
      refine ⟨Ext (fun _ => False) w13.drew, Ext.refl _ _, ?_⟩
      refine Br.dec (fun q1 => ?_) fun q1 => ⟨b5, b6, ?_⟩
      · have hk0 : 0 < k := by omega
        have ek : IntKind.i64.wrap ((k : Int) - 1) = ((k - 1 : Nat) : Int) := by rw [i64_id (by omega)]; omega
        rw [ek]
        have hy := mid_before hk hk0 h
        have hyA : A[k - 1]? = some (A[k - 1]'(by omega)) := List.getElem?_eq_getElem (by omega)
        obtain ⟨hy1, g', hy2, hy3⟩ := hmem _ (List.getElem_mem (show k - 1 < A.length by omega))
        have hshift := mid_shift hk hk0
        have hdsh := fun h2 => drop_shift (p := fun y => ltY (clampS g i) y = true) hk hk0 hdr h2
        generalize A[k - 1]'(by omega) = y at *
        obtain ⟨a2, ha2, hc2⟩ := VRow.elem acells_len (Row.view hRd) hy (by decide)
        rw [ha'] at ha2
        cases ha2
        have b3 : (0 : Int) ≤ ((k - 1 : Nat) : Int) := by omega
        have b4 : ((k - 1 : Nat) : Int) < ((A.length + 1 : Nat) : Int) := by omega
        have b7 : (0 : Int) ≤ (y.at' : Int) := by omega
        have b8 : (y.at' : Int) < ((L.length : Nat) : Int) := by omega
        obtain ⟨a3, ha3, hc3⟩ := VRow.elem gcells_len (hG.row.keep e13d) hy2 (by decide)
        obtain ⟨a4, ha4, hc4⟩ := VRow.elem gcells_len (hG.row.keep e13d) gi (by decide)
        rw [ha3] at ha4
        cases ha4
        rw [ha', ha3]
        simp only [Int.toNat_natCast, add_add']
        refine ⟨b3, b4, Nn.of (ldS_ext (x := (y.at' : Int)) (by have := hc2 0 _ rfl; simpa using this) ⟨b7, b8, Nn.of ?_⟩)⟩
        simp only [Int.toNat_natCast, add_add']
        refine ldS_ext (x := g'.fy) (hc3 3 _ rfl) ⟨b1, b2, Nn.of (ldS_ext (x := g.fy) (hc4 3 _ rfl) ?_)⟩
        refine (c_held g'.fy _).mono ?_
        rintro r33 w34 ⟨rfl, rfl⟩
        refine ⟨Ext.refl _ _, (c_held g.fy _).mono ?_⟩
        rintro r35 w36 ⟨rfl, rfl⟩
        have hyf : y.fy = bd g'.fy := by rw [hy3]; rfl
        have hxf : (clampS g i).fy = bd g.fy := rfl
        have hxa : (clampS g i).at' = i := rfl
        refine Br.dec (fun q2 => ?_) fun q2 => ⟨b5, b6, ?_⟩
        · refine ⟨b3, b4, Nn.of (Ld.mk (x := (y.at' : Int)) (by have := hc2 0 _ rfl; simpa using this) ⟨b5, b6, Nn.of ?_⟩)⟩
          rw [show k * 1 = k from Nat.mul_one k]
          have hst := row_set (X := y) (K := fun vw40 => ∃ n', n' < k ∧ ∃ (k_1 : Nat) (h : Sg), ((k - 1 : Nat) : Int) = (k_1 : Int) ∧ k_1 ≤ A.length ∧ k_1 = n' ∧ Row vw40 s' 3 1 ((A.take k_1 ++ h :: A.drop k_1).flatMap acells) ∧ (∀ y ∈ A.drop k_1, ltY (clampS g i) y = true) ∧ Ext (fun _ => False) w vw40) (k := k) hRd (by rw [mid_len hk]; omega) ha' fun w' h' e' => by
            refine ⟨k - 1, by omega, k - 1, y, rfl, by omega, rfl, ?_, hdsh ?_, ext_new e13d e' hown'⟩
            · rw [set_mid hk, hshift] at h'
              exact h'
            · unfold ltY
              rw [decide_eq_true_eq]
              exact .inl (by omega)
          rw [Nat.mul_one] at hst
          exact hst
        · refine Nn.of ?_
          have hpl := place hRd e13d fun z _ hz => by
            rw [hyA] at hz
            cases hz
            unfold ltY
            rw [decide_eq_false_iff_not]
            omega
          rw [Int.toNat_natCast] at hpl
          exact hpl
      · rw [ha']
        refine Nn.of ?_
        exact place hRd e13d fun z hk0 _ => absurd hk0 (by omega)
  · have : i = L.length := by omega
    subst this
    rw [List.take_length] at hR
    exact ⟨⟨Row.view hR, row_cap hR, fun j hj => Row.own_lt hR hj⟩, e3⟩
end Rdg
end Go.Proofs.YtodhdkbhmkinjaaDoor

/- The reference's order: rising. Conditions: sizes. -/
namespace Go.Proofs.YtodhdkbhmkinjaaDoor
namespace Rdg
open Sh
set_option linter.unusedVariables false
set_option linter.unusedSimpArgs false
set_option maxRecDepth 4000
set_option maxHeartbeats 2000000
attribute [local irreducible] Ld St Nw Nn Lt LdS
theorem c_rising {w : World} {s r0 : Slc} {L row : List Sg} (hG : GsV w s L) (hV : VRow w r0 1 (row.flatMap acells)) (hpl : ∀ x ∈ row, Pl L x) (hrl : row.length ≤ 1048576) : C30 s r0 w fun r w1 => VRow w1 r 1 ((sortI ltX row).flatMap acells) ∧ Ext (fun _ => False) w w1 := by
  have hlen : s.len = L.length := VRow.count gcells_len (by decide) hG.row
  have hrlen : r0.len = row.length := VRow.count acells_len (by decide) hV
  have hmost := hG.most
  refine T30 _ _ _ _ ?_
  unfold S30
  refine ⟨fun m st w1 => ∃ i : Nat, st.2 = (i : Int) ∧ i ≤ row.length ∧ m = row.length - i ∧ Row w1 st.1 3 1 ((sortI ltX (row.take i)).flatMap acells) ∧ (∀ j, st.1.own j → w.heap.size ≤ j) ∧ Ext (fun _ => False) w w1, row.length, ⟨0, rfl, Nat.zero_le _, rfl, Row.nil _ _ _, fun j hj => (no_own j hj).elim, Ext.refl _ _⟩, ?_⟩
  rintro m ⟨so, i'⟩ w4 ⟨i, hi', hi, rfl, hR, ho, e4⟩
  simp only at hi' hR ho
  subst hi'
  unfold S30L2
  dsimp only
  rw [hrlen]
  refine Br.dec (fun q => ?_) fun q => ?_
  · have hil : i < row.length := by omega
    obtain ⟨a, ha, hc⟩ := VRow.elem acells_len (hV.keep e4) (List.getElem?_eq_getElem hil) (by decide)
    obtain ⟨g, gi, hX⟩ := hpl _ (List.getElem_mem hil)
    have hsn : row.take (i + 1) = row.take i ++ [row[i]] := take_one hil
    have hmem : ∀ y ∈ sortI ltX (row.take i), ∃ g, L[y.at']? = some g ∧ y = clampS g y.at' := fun y hy =>
      hpl y (List.mem_of_mem_take ((sortI_perm ltX _).mem_iff.1 hy))
    have hAl : (sortI ltX (row.take i)).length ≤ i := by
      have h1 := (sortI_perm ltX (row.take i)).length_eq
      rw [List.length_take] at h1
      omega
    have hins := fun k => ins_at (lt := ltX) (l := row.take i) (x := row[i]) (k := k)
    generalize row[i] = X at *
    rw [ha, Int.toNat_natCast]
    have b1 : (0 : Int) ≤ (i : Int) := by omega
    have b2 : (i : Int) < ((row.length : Nat) : Int) := by omega
    refine ⟨b1, b2, Nn.of (Ld.mk (x := (X.at' : Int)) (by have := hc 0 _ rfl; simpa using this) (Nw.of ?_))⟩
    have hXl := (List.getElem?_eq_some_iff.1 gi).1
    have hso : so.len = (sortI ltX (row.take i)).length := VRow.count acells_len (by decide) (Row.view hR)
    have e1 := (Ext.refl (fun _ => False) w4).alloc (.cells (acells X).toArray 3)
    obtain ⟨s', w', hrun, hrow, hlen', hext, hown⟩ := elI.app1 (ty := 54) (ys := acells X) (hR.keep e1 fun _ _ e => e) (Blk.new w4 (acells X).toArray 3) rfl (acells_one _) (by omega) (by omega)
    have hown' : ∀ j, s'.own j → w.heap.size ≤ j := fun j hj => by
      rcases hown j hj with e | e
      · exact ho j e
      · have := (e4.tr e1).size
        omega
    have E' : Ext (fun _ => False) w w' := ext_new (e4.tr e1) hext ho
    generalize hA : sortI ltX (row.take i) = A at *
    have hrow' : Row w' s' 3 1 ((A.take A.length ++ X :: A.drop A.length).flatMap acells) := by
      rw [List.take_length, List.drop_length, List.flatMap_append]
      simpa using hrow
    refine ⟨s', w', hrun, ?_⟩
    rw [hso]
    refine ⟨fun m st w1 => ∃ (k : Nat) (h : Sg), st = (k : Int) ∧ k ≤ A.length ∧ k = m ∧ Row w1 s' 3 1 ((A.take k ++ h :: A.drop k).flatMap acells) ∧ (∀ y ∈ A.drop k, ltX X y = true) ∧ Ext (fun _ => False) w w1, A.length, ⟨A.length, _, rfl, Nat.le_refl _, rfl, hrow', fun y hy => (by rw [List.drop_length] at hy; cases hy), E'⟩, ?_⟩
    clear hrun hrow hrow' E' hR hext
    rintro m st w12 ⟨k, h, rfl, hk, rfl, hR, hdr, e12⟩
    unfold S30L1
    dsimp only
    have hlen2 : s'.len = A.length + 1 := by
      have := VRow.count acells_len (by decide) (Row.view hR)
      rw [this, mid_len hk]
    have hRd := hR.keep (Ext.refl (fun _ => False) w12).drew fun _ _ e => e
    have e12d := e12.drew
    rw [hlen, hlen2]
    have b5 : (0 : Int) ≤ (k : Int) := by omega
    have b6 : (k : Int) < ((A.length + 1 : Nat) : Int) := by omega
    have hp : ∃ a', s'.p = some a' := by
      obtain ⟨a', ha', _⟩ := VRow.elem acells_len (Row.view hR) (i := k) (x := h) (by rw [List.getElem?_append_right (by rw [List.length_take]; omega), List.length_take, Nat.min_eq_left hk, Nat.sub_self]; rfl) (by decide)
      exact ⟨a', ha'⟩
    obtain ⟨a', ha'⟩ := hp
    have place : (∀ y, 0 < k → A[k - 1]? = some y → ltX X y = false) →
        St w12.drew (a'.add (k * 1)) (.int .i64 (X.at' : Int)) fun vw42 => ∃ n', n' < row.length - i ∧ ∃ i_1 : Nat, (s', IntKind.i64.wrap ((i : Int) + 1)).2 = (i_1 : Int) ∧ i_1 ≤ row.length ∧ n' = row.length - i_1 ∧ Row vw42 (s', IntKind.i64.wrap ((i : Int) + 1)).1 3 1 ((sortI ltX (row.take i_1)).flatMap acells) ∧ (∀ j, (s', IntKind.i64.wrap ((i : Int) + 1)).1.own j → w.heap.size ≤ j) ∧ Ext (fun _ => False) w vw42 := fun hst => by
      refine row_set (X := X) hRd (by rw [mid_len hk]; omega) ha' fun w' h' e' => ?_
      refine ⟨row.length - (i + 1), by omega, i + 1, by dsimp only; rw [i64_id (by omega)]; rfl, hil, rfl, ?_, hown', ext_new e12d e' hown'⟩
      rw [hsn, hins k hk hdr hst]
      rw [set_mid hk] at h'
      exact h'
    refine ⟨Ext (fun _ => False) w12.drew, Ext.refl _ _, ?_⟩
    refine Br.dec (fun q1 => ?_) fun q1 => ⟨fun _ => True, trivial, fun _ => True, trivial, b5, b6, ?_⟩
    · have hk0 : 0 < k := by omega
      have ek : IntKind.i64.wrap ((k : Int) - 1) = ((k - 1 : Nat) : Int) := by rw [i64_id (by omega)]; omega
      rw [ek]
      have hy := mid_before hk hk0 h
      have hyA : A[k - 1]? = some (A[k - 1]'(by omega)) := List.getElem?_eq_getElem (by omega)
      obtain ⟨g', hy2, hy3⟩ := hmem _ (List.getElem_mem (show k - 1 < A.length by omega))
      have hshift := mid_shift hk hk0
      have hdsh := fun h2 => drop_shift (p := fun y => ltX X y = true) hk hk0 hdr h2
      generalize A[k - 1]'(by omega) = y at *
      obtain ⟨a2, ha2, hc2⟩ := VRow.elem acells_len (Row.view hRd) hy (by decide)
      rw [ha'] at ha2
      cases ha2
      have hyl := (List.getElem?_eq_some_iff.1 hy2).1
      have b3 : (0 : Int) ≤ ((k - 1 : Nat) : Int) := by omega
      have b4 : ((k - 1 : Nat) : Int) < ((A.length + 1 : Nat) : Int) := by omega
      have b7 : (0 : Int) ≤ (y.at' : Int) := by omega
      have b8 : (y.at' : Int) < ((L.length : Nat) : Int) := by omega
      have b9 : (0 : Int) ≤ (X.at' : Int) := by omega
      have b10 : (X.at' : Int) < ((L.length : Nat) : Int) := by omega
      obtain ⟨a3, ha3, hc3⟩ := VRow.elem gcells_len (hG.row.keep e12d) hy2 (by decide)
      obtain ⟨a4, ha4, hc4⟩ := VRow.elem gcells_len (hG.row.keep e12d) gi (by decide)
      rw [ha3] at ha4
      cases ha4
      have hyf : y.fx = bd g'.fx := by rw [hy3]; rfl
      have hxf : X.fx = bd g.fx := by rw [hX]; rfl
      have hcy : w12.drew.cell? (a'.add ((k - 1) * 1)) = some (.int .i64 (y.at' : Int)) := by have := hc2 0 _ rfl; simpa using this
      have shift : ltX X y = true → St w12.drew (a'.add (k * 1)) (.int .i64 (y.at' : Int)) fun vw40 => ∃ n', n' < k ∧ ∃ (k_1 : Nat) (h : Sg), ((k - 1 : Nat) : Int) = (k_1 : Int) ∧ k_1 ≤ A.length ∧ k_1 = n' ∧ Row vw40 s' 3 1 ((A.take k_1 ++ h :: A.drop k_1).flatMap acells) ∧ (∀ y ∈ A.drop k_1, ltX X y = true) ∧ Ext (fun _ => False) w vw40 := fun hlt =>
        row_set (X := y) (k := k) hRd (by rw [mid_len hk]; omega) ha' fun w' h' e' => by
          refine ⟨k - 1, by omega, k - 1, y, rfl, by omega, rfl, ?_, hdsh hlt, ext_new e12d e' hown'⟩
          rw [set_mid hk, hshift] at h'
          exact h'
      have place := fun hlt : ltX X y = false => place fun z _ hz => by
        rw [hyA] at hz
        cases hz
        exact hlt
      rw [ha', ha3]
      simp only [Int.toNat_natCast, add_add']
      refine ⟨b3, b4, Nn.of (ldS_ext (x := (y.at' : Int)) hcy ⟨b7, b8, Nn.of ?_⟩)⟩
      simp only [Int.toNat_natCast, add_add']
      refine ldS_ext (x := g'.fx) (hc3 2 _ rfl) ⟨b9, b10, Nn.of (ldS_ext (x := g.fx) (hc4 2 _ rfl) ?_)⟩
      refine (c_held g'.fx _).mono ?_
      rintro r33 w34 ⟨rfl, rfl⟩
      refine ⟨Ext.refl _ _, (c_held g.fx _).mono ?_⟩
      rintro r35 w36 ⟨rfl, rfl⟩
      refine ⟨Ext (fun _ => False) w12.drew, Ext.refl _ _, ?_⟩
      refine Br.dec (fun q2 => ⟨fun _ => True, trivial, b3, b4, Nn.of (Ld.mk (x := (y.at' : Int)) hcy ⟨b5, b6, Nn.of (shift ?_)⟩)⟩) fun q2 => ⟨b3, b4, Nn.of (ldS_ext (x := (y.at' : Int)) hcy ⟨b7, b8, Nn.of ?_⟩)⟩
      · unfold ltX
        rw [decide_eq_true_eq]
        exact .inl (by omega)
      · simp only [Int.toNat_natCast, add_add']
        refine ldS_ext (x := g'.fx) (hc3 2 _ rfl) ⟨b9, b10, Nn.of (ldS_ext (x := g.fx) (hc4 2 _ rfl) ?_)⟩
        refine (c_held g'.fx _).mono ?_
        rintro r65 w66 ⟨rfl, rfl⟩
        refine ⟨Ext.refl _ _, (c_held g.fx _).mono ?_⟩
        rintro r67 w68 ⟨rfl, rfl⟩
        refine ⟨Ext (fun _ => False) w12.drew, Ext.refl _ _, ?_⟩
        refine Br.eq (fun q3 => ⟨b3, b4, Nn.of (ldS_ext (x := (y.at' : Int)) hcy ?_)⟩) fun q3 => ⟨b5, b6, Nn.of (place ?_)⟩
        · refine Br.dec (fun q4 => ⟨b3, b4, Nn.of (Ld.mk (x := (y.at' : Int)) hcy ⟨b5, b6, Nn.of (shift ?_)⟩)⟩) fun q4 => ⟨b5, b6, Nn.of (place ?_)⟩
          · unfold ltX
            rw [decide_eq_true_eq]
            exact .inr (by omega)
          · unfold ltX
            rw [decide_eq_false_iff_not]
            omega
        · unfold ltX
          rw [decide_eq_false_iff_not]
          omega
    · rw [ha']
      refine Nn.of ?_
      rw [Int.toNat_natCast]
      exact place fun z hk0 _ => absurd hk0 (by omega)
  · have : i = row.length := by omega
    subst this
    rw [List.take_length] at hR
    exact ⟨Row.view hR, e4⟩
end Rdg
end Go.Proofs.YtodhdkbhmkinjaaDoor

/- The reference's order: the words of a row. Conditions: sizes. -/
namespace Go.Proofs.YtodhdkbhmkinjaaDoor
namespace Rdg
open Sh
set_option linter.unusedVariables false
set_option linter.unusedSimpArgs false
set_option maxRecDepth 4000
set_option maxHeartbeats 2000000
theorem ldGB {S : World → Prop} {b : Nat} {g : Sg} {K : TyA31 → Prop} (h : ∀ w, S w → Blk w b (gcells g).toArray 32) (k : K (gt g)) : LdST S ⟨b, 0, none⟩ 0 LiA31 K := LdST.blk (ts := LiA31) (x := gt g) (pre := []) (post := []) h rfl k
attribute [local irreducible] Ld St Nw Nn Lt LdS
theorem row_lastA {w : World} {s : Slc} {ws0 : List Wd} {j : Nat} {c : Value} {B : List Value} {K : World → Prop} (h : Row w s 44 5 (ws0.flatMap wcells ++ B)) (hB : B.length = 5) (hj : j < 5) {a : Addr} (ha : s.p = some a)
    (kk : ∀ w', Row w' s 44 5 (ws0.flatMap wcells ++ B.set j c) → Ext s.own w w' → K w') : St w (a.add (ws0.length * 5 + j)) c K := by
  rw [← add_add']
  exact row_last h hB hj ha kk
/-- A new word. -/
theorem rline_new {w wq : World} {b0 b1 xb : Nat} {sl : Slc} {ws : List Wd} {g : Sg} (h : LnI w wq b0 b1 sl ws) (hx : Blk wq xb (gcells g).toArray 32) (hl : ws.length ≤ 2000000) {K : World → Prop}
    (kk : ∀ s' w', LnI w w' b0 b1 s' (ws ++ [⟨g.s, (clampS g 0).box⟩]) → K w') :
    ∃ vS : World → Prop, vS wq ∧ LdS vS (⟨b1, 0, none⟩ : Addr) Slc.v fun (x135 : Slc) => LdS vS ((⟨xb, 0, none⟩ : Addr).add 1) Value.string fun (x136 : ByteArray) =>
      LdST vS (⟨xb, 0, none⟩ : Addr) 0 LiA31 fun (x137 : TyA31) => C12 x137 wq fun r138 vw139 =>
        vS vw139 ∧ vS vw139 ∧ Nw vw139 (.cells #[.string x136, .int .i64 (r138.1), .int .i64 (r138.2.1), .int .i64 (r138.2.2.1), .int .i64 (r138.2.2.2)] 44) fun vw140 =>
          vS vw140 ∧ Rn Tryd.prog (Builtin.append_ #[35, 35] 35 #[Slc.v x135, Slc.v ((⟨some ⟨vw139.heap.size, 0, none⟩, 1, 1⟩ : Slc))]) vw140 Slc.v fun (x141 : Slc) vw142 =>
            St vw142 (⟨b1, 0, none⟩ : Addr) (Slc.v x141) K := by
  have hlen := h.len
  have hb1 := h.H.get 1 rfl
  refine ⟨fun w' => Blk w' b1 (lcells (sl, zB)).toArray 40 ∧ Blk w' xb (gcells g).toArray 32, ⟨hb1, hx⟩, ?_⟩
  refine LdS.of (x := sl) (fun _ h => h.1) rfl (LdS.of (x := g.s) (fun _ h => h.2) rfl ?_)
  refine ldGB (g := g) (fun _ h => h.2) ?_
  refine (c_RBox g wq).mono ?_
  rintro r w139 ⟨rfl, e139⟩
  have h2 := h.keep e139
  have hb := h2.H.get 1 rfl
  have hx2 := e139.blk hx id
  refine ⟨⟨hb, hx2⟩, ⟨hb, hx2⟩, Nw.of ?_⟩
  have e1 := (Ext.refl (fun _ => False) w139).alloc (.cells (wcells ⟨g.s, (clampS g 0).box⟩).toArray 44)
  have h3 := h2.keep e1
  refine ⟨⟨h3.H.get 1 rfl, e1.blk hx2 id⟩, ?_⟩
  obtain ⟨s', w', hrun, hrow, hlen', hext, hown⟩ := elW.app1 (ty := 35) (ys := wcells ⟨g.s, (clampS g 0).box⟩) h3.row (Blk.new w139 (wcells ⟨g.s, (clampS g 0).box⟩).toArray 44) rfl (wcells_one _) (by omega) (by omega)
  refine ⟨s', w', hrun, ?_⟩
  have hne : (40 : TypeId) ≠ 44 := by decide
  have apart : ∀ j, sl.own j → j ∉ [b0, b1] := fun j hj hm => by
    obtain ⟨c, hc⟩ := own_blk h3.row hj
    rcases List.mem_cons.1 hm with rfl | hm
    · exact hne (blk_ty (h3.H.get 0 rfl) hc)
    · rw [List.mem_singleton] at hm
      subst hm
      exact hne (blk_ty (h3.H.get 1 rfl) hc)
  have H4 := h3.H.other hext fun j hj => ⟨h.new j hj, apart j hj⟩
  have hnew : ∀ j, s'.own j → w.heap.size ≤ j := fun j hj => by
    rcases hown j hj with e | e
    · exact h.new j e
    · have := h3.H.size
      omega
  refine H4.st' 1 rfl (of_decide_eq_true rfl) fun w5 H5 e5 => kk s' w5 ⟨H5, ?_, hnew⟩
  have hrow' : Row w' s' 44 5 ((ws ++ [(⟨g.s, (clampS g 0).box⟩ : Wd)]).flatMap wcells) := by
    rw [List.flatMap_append]
    simpa using hrow
  exact hrow'.keep e5 fun j hj e => by
    have e : j = b1 := e
    subst e
    obtain ⟨c, hc⟩ := own_blk hrow' hj
    exact hne (blk_ty (H4.get 1 rfl) hc)
/-- The last word grows. -/
theorem rline_more {w wq : World} {b0 b1 xb : Nat} {sl : Slc} {ws : List Wd} {v : Wd} {g : Sg} (h : LnI w wq b0 b1 sl (ws ++ [v])) (hx : Blk wq xb (gcells g).toArray 32) (hv : v.s.size ≤ 2000000) (hs : g.s.size ≤ 2000000) (hl : ws.length ≤ 2000000) {K : World → Prop}
    (kk : ∀ w', LnI w w' b0 b1 sl (ws ++ [joinW v (clampS g 0)]) → K w') :
    Ld wq (⟨b1, 0, none⟩ : Addr) Slc.v fun (x117 : Slc) => Ld wq.drew (⟨b1, 0, none⟩ : Addr) Slc.v fun (x118 : Slc) => Ld wq.drew (⟨b1, 0, none⟩ : Addr) Slc.v fun (x119 : Slc) =>
      0 ≤ (IntKind.i64.wrap (((x117.len : Nat) : Int) - 1)) ∧ (IntKind.i64.wrap (((x117.len : Nat) : Int) - 1)) < (x119.len : Nat) ∧ Nn x119.p fun a120 =>
      Ld wq.drew (a120.add ((IntKind.i64.wrap (((x117.len : Nat) : Int) - 1)).toNat * 5)) Value.string fun (x121 : ByteArray) => Ld wq.drew ((⟨xb, 0, none⟩ : Addr).add 1) Value.string fun (x122 : ByteArray) =>
      (((x121).size + (x122).size : Nat) : Int) ≤ IntKind.i64.max ∧ 0 ≤ (IntKind.i64.wrap (((x117.len : Nat) : Int) - 1)) ∧ (IntKind.i64.wrap (((x117.len : Nat) : Int) - 1)) < (x118.len : Nat) ∧ Nn x118.p fun a123 =>
      St wq.drew (a123.add ((IntKind.i64.wrap (((x117.len : Nat) : Int) - 1)).toNat * 5)) (.string (x121 ++ x122)) fun vw124 =>
      ∃ vS125 : World → Prop, vS125 vw124.drew ∧ LdS vS125 (⟨b1, 0, none⟩ : Addr) Slc.v fun (x126 : Slc) => LdS vS125 (⟨b1, 0, none⟩ : Addr) Slc.v fun (x127 : Slc) =>
      0 ≤ (IntKind.i64.wrap (((x117.len : Nat) : Int) - 1)) ∧ (IntKind.i64.wrap (((x117.len : Nat) : Int) - 1)) < (x127.len : Nat) ∧ Nn x127.p fun a128 =>
      LdS vS125 ((a128.add ((IntKind.i64.wrap (((x117.len : Nat) : Int) - 1)).toNat * 5)).add 1) (Value.int .i64) fun (x129 : Int) =>
      LdS vS125 (((a128.add ((IntKind.i64.wrap (((x117.len : Nat) : Int) - 1)).toNat * 5)).add 1).add 1) (Value.int .i64) fun (x130 : Int) =>
      LdS vS125 (((a128.add ((IntKind.i64.wrap (((x117.len : Nat) : Int) - 1)).toNat * 5)).add 1).add 2) (Value.int .i64) fun (x131 : Int) =>
      LdS vS125 (((a128.add ((IntKind.i64.wrap (((x117.len : Nat) : Int) - 1)).toNat * 5)).add 1).add 3) (Value.int .i64) fun (x132 : Int) =>
      LdST vS125 (⟨xb, 0, none⟩ : Addr) 0 LiA31 fun (x133 : TyA31) => C12 x133 vw124.drew fun r134 vw135 =>
        vS125 vw135 ∧ C50 (x129, x130, x131, x132) (r134.1, r134.2.1, r134.2.2.1, r134.2.2.2) vw135 fun r136 vw137 =>
          vS125 vw137 ∧ 0 ≤ (IntKind.i64.wrap (((x117.len : Nat) : Int) - 1)) ∧ (IntKind.i64.wrap (((x117.len : Nat) : Int) - 1)) < (x126.len : Nat) ∧ Nn x126.p fun a138 =>
          St vw137 ((a138.add ((IntKind.i64.wrap (((x117.len : Nat) : Int) - 1)).toNat * 5)).add 1) (.int .i64 (r136.1)) fun vw139 => St vw139 (((a138.add ((IntKind.i64.wrap (((x117.len : Nat) : Int) - 1)).toNat * 5)).add 1).add 1) (.int .i64 (r136.2.1)) fun vw140 => St vw140 (((a138.add ((IntKind.i64.wrap (((x117.len : Nat) : Int) - 1)).toNat * 5)).add 1).add 2) (.int .i64 (r136.2.2.1)) fun vw141 => St vw141 (((a138.add ((IntKind.i64.wrap (((x117.len : Nat) : Int) - 1)).toNat * 5)).add 1).add 3) (.int .i64 (r136.2.2.2)) K := by
  have hlen := h.len
  rw [List.length_append, List.length_singleton] at hlen
  have hmax : IntKind.i64.max = 9223372036854775807 := rfl
  refine h.H.ld 1 rfl (x := sl) rfl ?_
  have hn : IntKind.i64.wrap (((sl.len : Nat) : Int) - 1) = ((ws.length : Nat) : Int) := by rw [hlen, i64_id (by omega)]; omega
  rw [hn, Int.toNat_natCast]
  have hd := h.keep (Ext.refl _ wq).drew
  obtain ⟨a, ha, hcell⟩ := VRow.elem (x := v) wcells_len (Row.view hd.row) (i := ws.length) (by rw [List.getElem?_append_right (Nat.le_refl _), Nat.sub_self]; rfl) (by decide)
  have hxd := hx.drew
  have b1' : (0 : Int) ≤ ((ws.length : Nat) : Int) := by omega
  have b2' : ((ws.length : Nat) : Int) < ((sl.len : Nat) : Int) := by omega
  refine hd.H.ld 1 rfl (x := sl) rfl (hd.H.ld 1 rfl (x := sl) rfl ?_)
  rw [ha]
  refine ⟨b1', b2', Nn.of ?_⟩
  refine Ld.mk (x := v.s) (hcell 0 _ rfl) ?_
  refine Ld.of (x := g.s) hxd rfl ⟨by rw [hmax]; omega, b1', b2', Nn.of ?_⟩
  have hrw : ∀ u : Wd, (ws ++ [u]).flatMap wcells = ws.flatMap wcells ++ wcells u := fun u => by rw [List.flatMap_append]; simp
  have hne : (40 : TypeId) ≠ 44 := by decide
  have hneS : (32 : TypeId) ≠ 44 := by decide
  -- stores into the words leave the rest
  have step : ∀ {u u2 : Wd} {w1 w2 : World}, LnI w w1 b0 b1 sl (ws ++ [u]) → Blk w1 xb (gcells g).toArray 32 → Row w2 sl 44 5 (ws.flatMap wcells ++ wcells u2) → Ext sl.own w1 w2 → LnI w w2 b0 b1 sl (ws ++ [u2]) ∧ Blk w2 xb (gcells g).toArray 32 := fun h1 hb hr he => by
    refine ⟨⟨h1.H.other he fun j hj => ⟨h1.new j hj, fun hm => ?_⟩, by rw [hrw]; exact hr, h1.new⟩, he.blk hb fun hj => ?_⟩
    · obtain ⟨c, hc⟩ := own_blk h1.row hj
      rcases List.mem_cons.1 hm with rfl | hm
      · exact hne (blk_ty (h1.H.get 0 rfl) hc)
      · have hm : j = b1 := by simpa using hm
        subst hm
        exact hne (blk_ty (h1.H.get 1 rfl) hc)
    · obtain ⟨c, hc⟩ := own_blk h1.row hj
      exact hneS (blk_ty hb hc)
  have hr0 := hd.row
  rw [hrw] at hr0
  refine row_last (j := 0) (c := .string (v.s ++ g.s)) hr0 rfl (by decide) ha fun w117 r117 e117 => ?_
  obtain ⟨L1, B1⟩ := step (u2 := ⟨v.s ++ g.s, v.box⟩) hd hxd r117 e117
  have L1d := L1.keep (Ext.refl _ w117).drew
  have B1d := B1.drew
  refine ⟨fun w' => LnI w w' b0 b1 sl (ws ++ [⟨v.s ++ g.s, v.box⟩]) ∧ Blk w' xb (gcells g).toArray 32, ⟨L1d, B1d⟩, LdS.of (x := sl) (fun _ h => h.1.H.get 1 rfl) rfl (LdS.of (x := sl) (fun _ h => h.1.H.get 1 rfl) rfl ⟨b1', b2', ?_⟩)⟩
  rw [ha]
  refine Nn.of ?_
  have cellS : ∀ (w' : World), LnI w w' b0 b1 sl (ws ++ [⟨v.s ++ g.s, v.box⟩]) → ∀ j c, (wcells ⟨v.s ++ g.s, v.box⟩)[j]? = some c → w'.cell? (a.add (ws.length * 5 + j)) = some c := fun w' hw j c hj => by
    obtain ⟨a', ha', hc'⟩ := VRow.elem (x := (⟨v.s ++ g.s, v.box⟩ : Wd)) wcells_len (Row.view hw.row) (i := ws.length) (by rw [List.getElem?_append_right (Nat.le_refl _), Nat.sub_self]; rfl) (by decide)
    rw [ha] at ha'
    cases ha'
    exact hc' j c hj
  simp only [add_add']
  refine ldS_mk (x := v.box.1) (fun w' hw => cellS w' hw.1 1 _ rfl) (ldS_mk (x := v.box.2.1) (fun w' hw => cellS w' hw.1 2 _ rfl) (ldS_mk (x := v.box.2.2.1) (fun w' hw => cellS w' hw.1 3 _ rfl) (ldS_mk (x := v.box.2.2.2) (fun w' hw => cellS w' hw.1 4 _ rfl) ?_)))
  refine ldGB (g := g) (fun _ h => h.2) ?_
  refine (c_RBox g _).mono ?_
  rintro r125 w126 ⟨rfl, e126⟩
  have L2 := L1d.keep e126
  have B2 := e126.blk B1d id
  refine ⟨⟨L2, B2⟩, (c_both v.box (clampS g 0).box _).mono ?_⟩
  rintro r127 w128 ⟨rfl, e128⟩
  have L3 := L2.keep e128
  have B3 := e128.blk B2 id
  refine ⟨⟨L3, B3⟩, b1', b2', Nn.of ?_⟩
  have hr3 := L3.row
  rw [hrw] at hr3
  refine row_lastA (j := 1) hr3 rfl (by decide) ha fun w130 r130 e130 => ?_
  refine row_lastA (j := 2) r130 rfl (by decide) ha fun w131 r131 e131 => ?_
  refine row_lastA (j := 3) r131 rfl (by decide) ha fun w132 r132 e132 => ?_
  refine row_lastA (j := 4) r132 rfl (by decide) ha fun w133 r133 e133 => ?_
  exact kk w133 (step (u2 := joinW v (clampS g 0)) L3 B3 r133 (((e130.tr e131).tr e132).tr e133)).1
end Rdg
end Go.Proofs.YtodhdkbhmkinjaaDoor

/- The reference's order: line. Conditions: sizes. -/
namespace Go.Proofs.YtodhdkbhmkinjaaDoor
namespace Rdg
open Sh
set_option linter.unusedVariables false
set_option linter.unusedSimpArgs false
set_option maxRecDepth 4000
set_option maxHeartbeats 2000000
attribute [local irreducible] Ld St Nw Nn Lt LdS
/-- The box takes a word in. -/
theorem rbox_in {w wq : World} {b1 : Nat} {sl : Slc} {ws : List Wd} {b : R4} {v : Wd} {i : Nat} (H : Hn w wq [(w.heap.size, lcells (⟨none, 0, 0⟩, zB), 40), (b1, lcells (sl, b), 40)]) (hr : Row wq sl 44 5 (ws.flatMap wcells)) (hv : ws[i]? = some v) {K : World → Prop}
    (kk : ∀ w', Hn w w' [(w.heap.size, lcells (⟨none, 0, 0⟩, zB), 40), (b1, lcells (sl, both b v.box), 40)] → Row w' sl 44 5 (ws.flatMap wcells) → K w') :
    Ld wq ((⟨b1, 0, none⟩ : Addr).add 1) (Value.int .i64) fun (x201 : Int) => Ld wq (((⟨b1, 0, none⟩ : Addr).add 1).add 1) (Value.int .i64) fun (x202 : Int) => Ld wq (((⟨b1, 0, none⟩ : Addr).add 1).add 2) (Value.int .i64) fun (x203 : Int) => Ld wq (((⟨b1, 0, none⟩ : Addr).add 1).add 3) (Value.int .i64) fun (x204 : Int) =>
      Ld wq (⟨b1, 0, none⟩ : Addr) Slc.v fun (x205 : Slc) => 0 ≤ (i : Int) ∧ (i : Int) < (x205.len : Nat) ∧ Nn x205.p fun a206 =>
      Ld wq ((a206.add (((i : Int)).toNat * 5)).add 1) (Value.int .i64) fun (x207 : Int) => Ld wq (((a206.add (((i : Int)).toNat * 5)).add 1).add 1) (Value.int .i64) fun (x208 : Int) => Ld wq (((a206.add (((i : Int)).toNat * 5)).add 1).add 2) (Value.int .i64) fun (x209 : Int) => Ld wq (((a206.add (((i : Int)).toNat * 5)).add 1).add 3) (Value.int .i64) fun (x210 : Int) =>
      C50 (x201, x202, x203, x204) (x207, x208, x209, x210) wq fun r244 vw245 =>
        St vw245 ((⟨b1, 0, none⟩ : Addr).add 1) (.int .i64 (r244.1)) fun vw246 => St vw246 (((⟨b1, 0, none⟩ : Addr).add 1).add 1) (.int .i64 (r244.2.1)) fun vw247 => St vw247 (((⟨b1, 0, none⟩ : Addr).add 1).add 2) (.int .i64 (r244.2.2.1)) fun vw248 => St vw248 (((⟨b1, 0, none⟩ : Addr).add 1).add 3) (.int .i64 (r244.2.2.2)) K := by
  have hne : (40 : TypeId) ≠ 44 := by decide
  have hlen : sl.len = ws.length := VRow.count wcells_len (by decide) (Row.view hr)
  have hil := (List.getElem?_eq_some_iff.1 hv).1
  obtain ⟨a, ha, hc⟩ := VRow.elem wcells_len (Row.view hr) hv (by decide)
  refine H.ld 1 rfl (x := b.1) rfl (H.ld 1 rfl (x := b.2.1) rfl (H.ld 1 rfl (x := b.2.2.1) rfl (H.ld 1 rfl (x := b.2.2.2) rfl (H.ld 1 rfl (x := sl) rfl ?_))))
  rw [ha, Int.toNat_natCast]
  refine ⟨by omega, by omega, Nn.of ?_⟩
  simp only [add_add']
  refine Ld.mk (x := v.box.1) (hc 1 _ rfl) (Ld.mk (x := v.box.2.1) (hc 2 _ rfl) (Ld.mk (x := v.box.2.2.1) (hc 3 _ rfl) (Ld.mk (x := v.box.2.2.2) (hc 4 _ rfl) ?_)))
  refine (c_both b v.box wq).mono ?_
  rintro r w3 ⟨rfl, e3⟩
  have H := H.keep e3
  have hr := hr.keep e3 fun _ _ e => e
  refine H.st' 1 rfl (of_decide_eq_true rfl) fun w4 H e4 => H.st' 1 rfl (of_decide_eq_true rfl) fun w5 H e5 => H.st' 1 rfl (of_decide_eq_true rfl) fun w6 H e6 => H.st' 1 rfl (of_decide_eq_true rfl) fun w7 H e7 => ?_
  exact kk w7 H (hr.keep (((e4.tr e5).tr e6).tr e7) fun j hj e => by
    have e : j = b1 := e
    subst e
    obtain ⟨c, hc⟩ := own_blk hr hj
    have hb := ((Hn.get (by assumption : Hn w w3 _) 1 rfl))
    exact hne (blk_ty hb hc))
/-- The second loop: the box of the words. -/
theorem rline_box {w : World} {sl : Slc} {ws : List Wd} (hl : ws.length ≤ 2000000) {R : TyA39 → World → Prop} {w2 : World} (kk : ∀ w', Row w' sl 44 5 (ws.flatMap wcells) → Ext (fun _ => False) w w' → R (lt5 (sl, boxW ws)) w') {w1 : World}
    (h : LnI w w1 w.heap.size w2.heap.size sl ws) : Lp (σ := Int) (S29L1 w w2 R) 0 w1 := by
  have hlen := h.len
  have hne : (40 : TypeId) ≠ 44 := by decide
  refine ⟨fun m i' w3 => ∃ i : Nat, i' = (i : Int) ∧ i ≤ ws.length ∧ m = ws.length - i ∧ Hn w w3 [(w.heap.size, lcells (⟨none, 0, 0⟩, zB), 40), (w2.heap.size, lcells (sl, boxW (ws.take i)), 40)] ∧ Row w3 sl 44 5 (ws.flatMap wcells), ws.length, ⟨0, rfl, Nat.zero_le _, rfl, h.H, h.row⟩, ?_⟩
  rintro m i' w3 ⟨i, rfl, hi, rfl, H, hV⟩
  unfold S29L1
  refine H.ld 1 rfl (x := sl) rfl ?_
  rw [hlen]
  refine Br.dec (fun q => ?_) fun q => ?_
  · have hil : i < ws.length := by omega
    have htk := take_one hil
    have gv : ws[i]? = some ws[i] := List.getElem?_eq_getElem hil
    have hbx : boxW (ws.take (i + 1)) = both (if i = 0 then (ws[i]).box else boxW (ws.take i)) (ws[i]).box := by
      rw [htk]
      by_cases h0 : i = 0
      · subst h0
        rw [if_pos rfl]
        rfl
      · rw [if_neg h0]
        exact boxW_snoc (by
          intro e
          have := congrArg List.length e
          rw [List.length_take, List.length_nil] at this
          omega)
    generalize ws[i] = v at *
    have next : ∀ w', Hn w w' [(w.heap.size, lcells (⟨none, 0, 0⟩, zB), 40), (w2.heap.size, lcells (sl, both (if i = 0 then v.box else boxW (ws.take i)) v.box), 40)] → Row w' sl 44 5 (ws.flatMap wcells) → ∃ n', n' < ws.length - i ∧ ∃ i_1 : Nat, IntKind.i64.wrap ((i : Int) + 1) = (i_1 : Int) ∧ i_1 ≤ ws.length ∧ n' = ws.length - i_1 ∧ Hn w w' [(w.heap.size, lcells (⟨none, 0, 0⟩, zB), 40), (w2.heap.size, lcells (sl, boxW (ws.take i_1)), 40)] ∧ Row w' sl 44 5 (ws.flatMap wcells) := fun w' h1 h2 =>
      ⟨ws.length - (i + 1), by omega, i + 1, by rw [i64_id (by omega)]; rfl, by omega, rfl, by rw [hbx]; exact h1, h2⟩
    refine Br.eq (fun h0 => ?_) fun h0 => ?_
    · have hi0 : i = 0 := by omega
      subst hi0
      simp only [if_true] at next
      refine H.ld 1 rfl (x := sl) rfl ?_
      obtain ⟨a, ha, hc⟩ := VRow.elem wcells_len (Row.view hV) gv (by decide)
      rw [ha]
      refine ⟨by omega, by omega, Nn.of ?_⟩
      simp only [add_add']
      refine Ld.mk (x := v.box.1) (hc 1 _ rfl) (Ld.mk (x := v.box.2.1) (hc 2 _ rfl) (Ld.mk (x := v.box.2.2.1) (hc 3 _ rfl) (Ld.mk (x := v.box.2.2.2) (hc 4 _ rfl) ?_)))
      refine H.st' 1 rfl (of_decide_eq_true rfl) fun w6 H6 e6 => H6.st' 1 rfl (of_decide_eq_true rfl) fun w7 H7 e7 => H7.st' 1 rfl (of_decide_eq_true rfl) fun w8 H8 e8 => H8.st' 1 rfl (of_decide_eq_true rfl) fun w9 H9 e9 => ?_
      have H9 : Hn w w9 [(w.heap.size, lcells (⟨none, 0, 0⟩, zB), 40), (w2.heap.size, lcells (sl, v.box), 40)] := H9
      have hV9 := hV.keep (((e6.tr e7).tr e8).tr e9) fun j hj e => by
        have e : j = w2.heap.size := e
        subst e
        obtain ⟨c, hc⟩ := own_blk hV hj
        exact hne (blk_ty (H.get 1 rfl) hc)
      have hb := rbox_in (i := 0) H9.drew (hV9.keep (Ext.refl (fun _ => False) w9).drew fun _ _ e => e) gv next
      simp only [add_add'] at hb
      exact hb
    · have hi0 : ¬ i = 0 := by omega
      rw [if_neg hi0] at next
      exact rbox_in H.drew (hV.keep (Ext.refl (fun _ => False) w3).drew fun _ _ e => e) gv next
  · have : i = ws.length := by omega
    subst this
    rw [List.take_length] at H
    refine ldLn H 1 rfl ?_
    have hn01 : w2.heap.size ≠ w.heap.size := by
      have := H.h.nodup
      intro e
      rw [e] at this
      simp [arr] at this
    refine StT.blk (ts := LiA39) (x := lt5 (sl, boxW ws)) (pre := []) (zs := lcells (⟨none, 0, 0⟩, zB)) (post := []) (by rw [List.append_nil, List.nil_append]; exact H.get 0 rfl) rfl rfl fun w4 b4 e4 => ?_
    refine LdT.blk (ts := LiA39) (x := lt5 (sl, boxW ws)) (pre := []) (post := []) b4 rfl ?_
    refine kk w4 (hV.keep e4 fun j hj e => ?_) (ext_new H.ext e4 fun j e => by have e : j = w.heap.size := e; omega)
    have e : j = w.heap.size := e
    subst e
    obtain ⟨c, hc⟩ := own_blk hV hj
    exact hne (blk_ty (H.get 0 rfl) hc)
/-- What the first signs of a row make. -/
theorem wsAt_step {r : List Sg} {i : Nat} {x : Sg} (h : r[i]? = some x) : (x.blank = true → wsAt r (i + 1) = wsAt r i) ∧
    (x.blank = false → ((∃ k p v ws, i = k + 1 ∧ r[k]? = some p ∧ goesOn p x = true ∧ wsAt r i = v :: ws ∧ wsAt r (i + 1) = joinW v x :: ws) ∨ ((∀ k p, i = k + 1 → r[k]? = some p → goesOn p x = false) ∧ wsAt r (i + 1) = ⟨x.s, x.box⟩ :: wsAt r i))) := by
  obtain ⟨hil, rfl⟩ := List.getElem?_eq_some_iff.1 h
  have step0 : i = 0 → wsAt r (i + 1) = stepW none (wsAt r i) r[i] := fun h0 => by
    subst h0
    exact wsAt_zero (by omega)
  have stepN : ∀ k, (hk : i = k + 1) → wsAt r (i + 1) = stepW (some (r[k]'(by omega))) (wsAt r i) r[i] := fun k hk => by
    subst hk
    exact wsAt_succ hil
  refine ⟨fun hb => ?_, fun hb => ?_⟩
  · have hs : ∀ p, stepW p (wsAt r i) r[i] = wsAt r i := fun p => by unfold stepW; rw [if_pos hb]
    cases i with
    | zero => rw [step0 rfl, hs]
    | succ k => rw [stepN k rfl, hs]
  · cases i with
    | zero =>
      refine .inr ⟨fun k p hk => by omega, ?_⟩
      rw [step0 rfl]
      unfold stepW
      rw [if_neg (by rw [hb]; decide)]
    | succ k =>
      have hk : k < r.length := by omega
      have hst := stepN k rfl
      have hane : (r[k]).blank = false → wsAt r (k + 1) ≠ [] := fun hbl => by
        cases k with
        | zero => rw [wsAt_zero (by omega)]; exact stepW_ne hbl
        | succ k => rw [wsAt_succ (by omega)]; exact stepW_ne hbl
      cases hg : goesOn r[k] r[k + 1] with
      | true =>
        have hpb : (r[k]).blank = false := by
          unfold goesOn at hg
          simp only [Bool.and_eq_true, Bool.not_eq_true'] at hg
          exact hg.1.1
        obtain ⟨v, ws1, hws⟩ : ∃ v ws1, wsAt r (k + 1) = v :: ws1 := by
          match wsAt r (k + 1), hane hpb with
          | v :: ws1, _ => exact ⟨v, ws1, rfl⟩
        refine .inl ⟨k, r[k], v, ws1, rfl, List.getElem?_eq_getElem hk, hg, hws, ?_⟩
        rw [hst, hws]
        unfold stepW
        rw [if_neg (by rw [hb]; decide)]
        dsimp only
        rw [if_pos hg]
      | false =>
        refine .inr ⟨fun k' p hk' hp => ?_, ?_⟩
        · have : k' = k := by omega
          subst this
          rw [List.getElem?_eq_getElem hk] at hp
          cases hp
          exact hg
        · rw [hst]
          unfold stepW
          rw [if_neg (by rw [hb]; decide)]
          cases hw : wsAt r (k + 1) with
          | nil => rfl
          | cons v ws1 =>
            dsimp only
            rw [if_neg (by rw [hg]; decide)]
end Rdg
end Go.Proofs.YtodhdkbhmkinjaaDoor

/- The reference's order: line, whole. Conditions: sizes. -/
namespace Go.Proofs.YtodhdkbhmkinjaaDoor
namespace Rdg
open Sh
set_option linter.unusedVariables false
set_option linter.unusedSimpArgs false
set_option maxRecDepth 4000
set_option maxHeartbeats 2000000
attribute [local irreducible] Ld St Nw Nn Lt LdS
def zeroG : Sg := ⟨0, ⟨#[]⟩, 0, 0, 0, 0, 0, ⟨#[]⟩, 0, 0⟩
theorem c_rline {w : World} {s r0 : Slc} {L r : List Sg} (hG : GsV w s L) (hV : VRow w r0 1 (r.flatMap acells)) (hpl : ∀ x ∈ r, Pl L x) (hl : r.length ≤ 1048576) (hs : lets r ≤ 1048576) :
    C29 s r0 w fun a w1 => (∃ sl, a = lt5 (sl, (lineF r).box) ∧ Row w1 sl 44 5 ((wordsF r).flatMap wcells)) ∧ Ext (fun _ => False) w w1 := by
  have hlen : s.len = L.length := VRow.count gcells_len (by decide) hG.row
  have hrlen : r0.len = r.length := VRow.count acells_len (by decide) hV
  refine T29 _ _ _ _ ?_
  unfold S29
  refine (Hn.start w).nw fun w3 H => H.nw fun w4 H => ?_
  have H : Hn w w4 [(w.heap.size, lcells (⟨none, 0, 0⟩, zB), 40), (w3.heap.size, lcells (⟨none, 0, 0⟩, zB), 40)] := H
  refine ⟨fun m i' w1 => ∃ (i : Nat) (sl : Slc), i' = (i : Int) ∧ i ≤ r.length ∧ m = r.length - i ∧ LnI w w1 w.heap.size w3.heap.size sl (wsAt r i).reverse, r.length, ⟨0, ⟨none, 0, 0⟩, rfl, Nat.zero_le _, rfl, H, Row.nil _ _ _, fun j hj => (no_own j hj).elim⟩, ?_⟩
  rintro m i' w104 ⟨i, sl, rfl, hi, rfl, I⟩
  unfold S29L2
  rw [hrlen, hlen]
  have hsz := letsW_at r i hi
  have hsz2 := lets_take r i
  refine Br.dec (fun q => ?_) fun q => ?_
  · have hil : i < r.length := by omega
    have gx : r[i]? = some r[i] := List.getElem?_eq_getElem hil
    obtain ⟨a, ha, hc⟩ := VRow.elem acells_len (hV.keep I.H.ext) gx (by decide)
    have hxm := List.getElem_mem hil
    obtain ⟨g, hg, hx⟩ := hpl _ hxm
    have hx63 : (r[i]).s.size ≤ 1048576 := by have := lets_mem hxm; omega
    obtain ⟨stB, stN⟩ := wsAt_step gx
    generalize r[i] = x at *
    have hgs : x.s = g.s := by rw [hx]; rfl
    have hbox : x.box = (clampS g 0).box := by rw [hx]; rfl
    have hxf : x.fx = bd g.fx := by rw [hx]; rfl
    have hgl := (List.getElem?_eq_some_iff.1 hg).1
    obtain ⟨a2, ha2, hc2⟩ := VRow.elem gcells_len (hG.row.keep I.H.ext) hg (by decide)
    have b1 : (0 : Int) ≤ (i : Int) := by omega
    have b2 : (i : Int) < ((r.length : Nat) : Int) := by omega
    have b3 : (0 : Int) ≤ (x.at' : Int) := by omega
    have b4 : (x.at' : Int) < ((L.length : Nat) : Int) := by omega
    rw [ha, ha2, Int.toNat_natCast]
    refine ⟨b1, b2, Nn.of (Ld.mk (x := (x.at' : Int)) (by have := hc 0 _ rfl; simpa using this) ⟨b3, b4, Nn.of ?_⟩)⟩
    rw [Int.toNat_natCast]
    refine ldGA (g := g) (fun j v hj => by rw [add_add']; exact hc2 j v hj) ?_
    refine (Hn.start w104).nw fun w110 J => ?_
    have J : Hn w104 w110 [(w104.heap.size, gcells zeroG, 32)] := J
    refine stG (x := g) J 0 rfl fun w111 J => ?_
    simp only [List.set_cons_zero] at J
    refine J.ld 0 rfl (x := g.s) rfl ?_
    refine (c_Rblank (by rw [← hgs]; omega) w111).mono ?_
    rintro r113 w114 ⟨rfl, rfl⟩
    have I4 := I.keep J.ext
    have next : ∀ (s' : Slc) (w' : World), LnI w w' w.heap.size w3.heap.size s' (wsAt r (i + 1)).reverse → ∃ n', n' < r.length - i ∧ ∃ (i_1 : Nat) (sl : Slc), IntKind.i64.wrap ((i : Int) + 1) = (i_1 : Int) ∧ i_1 ≤ r.length ∧ n' = r.length - i_1 ∧ LnI w w' w.heap.size w3.heap.size sl (wsAt r i_1).reverse := fun s' w' h =>
      ⟨r.length - (i + 1), by omega, i + 1, s', by rw [i64_id (by omega)]; rfl, by omega, rfl, h⟩
    have hbl : blankL g.s.data.toList = x.blank := by unfold Sg.blank; rw [hgs]
    rw [hbl]
    cases hb : x.blank with
    | true =>
      refine Br.t rfl (next sl w114 ?_)
      rw [stB hb]
      exact I4
    | false =>
      refine Br.f rfl ?_
      have hjx : ∀ v : Wd, joinW v x = joinW v (clampS g 0) := fun v => by unfold joinW; rw [hbox, hgs]; rfl
      refine ⟨fun b w' => (b = true → ∃ k p, i = k + 1 ∧ r[k]? = some p ∧ goesOn p x = true) ∧ (b = false → ∀ k p, i = k + 1 → r[k]? = some p → goesOn p x = false) ∧ LnI w w' w.heap.size w3.heap.size sl (wsAt r i).reverse ∧ Blk w' w104.heap.size (gcells g).toArray 32, ?_, ?_⟩
      · rintro b w116 ⟨j1, j2, I6, B6⟩
        unfold S29J1
        rcases stN hb with ⟨k, p, v, ws1, hk, hp, hgo, hws, hnx⟩ | ⟨hno, hnx⟩
        · have hbt : b = true := by
            cases b with
            | true => rfl
            | false =>
              have := j2 rfl k p hk hp
              rw [hgo] at this
              cases this
          subst hbt
          rw [hws] at hsz
          rw [hws, List.reverse_cons] at I6
          rw [hnx, List.reverse_cons] at next
          have hv : v.s.size ≤ 1048576 := by
            have := hsz.1
            unfold letsW at this
            simp only [List.map_cons, List.sum_cons] at this
            omega
          have h2 := hsz.2
          simp only [List.length_cons] at h2
          refine Br.t rfl ?_
          exact rline_more I6 B6 (by omega) (by rw [← hgs]; omega) (by rw [List.length_reverse]; omega) fun w' h => next sl w' (by rw [hjx]; exact h)
        · have hbf : b = false := by
            cases b with
            | false => rfl
            | true =>
              obtain ⟨k, p, hk, hp, hgo⟩ := j1 rfl
              rw [hno k p hk hp] at hgo
              cases hgo
          subst hbf
          rw [hnx, List.reverse_cons] at next
          refine Br.f rfl ?_
          have hd := (Ext.refl (fun _ => False) w116).drew
          exact rline_new (I6.keep hd) (hd.blk B6 id) (by rw [List.length_reverse]; omega) fun s' w' h => next s' w' (by rw [hgs, hbox]; exact h)
      · refine Br.dec (fun q1 => ?_) fun q1 => ⟨fun h => (by cases h), fun _ k p hk => (by omega), I4, J.get 0 rfl⟩
        obtain ⟨k, rfl⟩ : ∃ k, i = k + 1 := ⟨i - 1, by omega⟩
        have hk : k < r.length := by omega
        have ek : IntKind.i64.wrap (((k + 1 : Nat) : Int) - 1) = (k : Int) := by rw [i64_id (by omega)]; omega
        rw [ek]
        have gp : r[k]? = some r[k] := List.getElem?_eq_getElem hk
        obtain ⟨a3, ha3, hc3⟩ := VRow.elem acells_len (hV.keep I4.H.ext) gp (by decide)
        have hpm := List.getElem_mem hk
        obtain ⟨g', hg', hx'⟩ := hpl _ hpm
        have hp63 : (r[k]).s.size ≤ 1048576 := by have := lets_mem hpm; omega
        generalize r[k] = p at *
        rw [ha] at ha3
        cases ha3
        obtain ⟨a4, ha4, hc4⟩ := VRow.elem gcells_len (hG.row.keep I4.H.ext) hg' (by decide)
        rw [ha2] at ha4
        cases ha4
        have hgl' := (List.getElem?_eq_some_iff.1 hg').1
        have hgs' : p.s = g'.s := by rw [hx']; rfl
        have hpt : p.tx = bd g'.tx := by rw [hx']; rfl
        have hph : p.hi = max (bd g'.hi) 0 := by rw [hx']; rfl
        have hbl' : blankL g'.s.data.toList = p.blank := by unfold Sg.blank; rw [hgs']
        have n1 := bd_in g.fx
        have n2 := bd_in g'.tx
        have n3 := bd_in g'.hi
        refine ⟨by omega, by omega, Nn.of (Ld.mk (x := (p.at' : Int)) (by have := hc3 0 _ rfl; simpa using this) ⟨by omega, by omega, Nn.of ?_⟩)⟩
        rw [Int.toNat_natCast]
        refine ldGA (g := g') (fun j v hj => by rw [add_add']; exact hc4 j v hj) ?_
        refine J.nw fun w158 J => ?_
        have J : Hn w104 w158 [(w104.heap.size, gcells g, 32), (w114.heap.size, gcells zeroG, 32)] := J
        refine stG (x := g') J 1 rfl fun w159 J => ?_
        simp only [List.set_cons_zero, List.set_cons_succ] at J
        have J := J.drew
        have fin : ∀ (b : Bool) (w' : World), goesOn p x = b → Hn w104 w' [(w104.heap.size, gcells g, 32), (w114.heap.size, gcells g', 32)] → (b = true → ∃ k_1 p, k + 1 = k_1 + 1 ∧ r[k_1]? = some p ∧ goesOn p x = true) ∧ (b = false → ∀ k_1 p, k + 1 = k_1 + 1 → r[k_1]? = some p → goesOn p x = false) ∧ LnI w w' w.heap.size w3.heap.size sl (wsAt r (k + 1)).reverse ∧ Blk w' w104.heap.size (gcells g).toArray 32 := fun b w' hb' J' =>
          ⟨fun h => ⟨k, p, rfl, gp, by rw [hb', h]⟩, fun h k' p' hk' hp' => by
            have : k' = k := by omega
            subst this
            rw [gp] at hp'
            cases hp'
            rw [hb', h], I.keep J'.ext, J'.get 0 rfl⟩
        have hgo : goesOn p x = (!p.blank && decide (x.fx - p.tx ≤ p.hi / 4) && decide (-p.hi ≤ x.fx - p.tx)) := rfl
        have cb0 : ∀ {j : Nat} {v : Value}, (gcells g)[j]? = some v → w159.drew.cell? ((⟨w104.heap.size, 0, none⟩ : Addr).add j) = some v := fun hj => by rw [add_lit, Nat.zero_add, (J.get 0 rfl).cell]; simpa using hj
        have cb1 : ∀ {j : Nat} {v : Value}, (gcells g')[j]? = some v → w159.drew.cell? ((⟨w114.heap.size, 0, none⟩ : Addr).add j) = some v := fun hj => by rw [add_lit, Nat.zero_add, (J.get 1 rfl).cell]; simpa using hj
        refine ⟨Ext (fun _ => False) w159.drew, Ext.refl _ _, ?_⟩
        refine ldS_ext (x := g.fx) (cb0 rfl) (ldS_ext (x := g'.tx) (cb1 rfl) ?_)
        refine (c_held g.fx _).mono ?_
        rintro r163 w164 ⟨rfl, rfl⟩
        refine ⟨Ext.refl _ _, (c_held g'.tx _).mono ?_⟩
        rintro r165 w166 ⟨rfl, rfl⟩
        refine J.ld 1 rfl (x := g'.s) rfl ?_
        refine (c_Rblank (by rw [← hgs']; omega) _).mono ?_
        rintro r168 w169 ⟨rfl, rfl⟩
        rw [hbl']
        rw [hxf, hpt, hph] at hgo
        rw [i64_id (n := bd g.fx - bd g'.tx) (by omega)]
        cases hpb : p.blank with
        | true =>
          rw [hpb] at hgo
          exact Br.f rfl (fin false _ hgo J)
        | false =>
          rw [hpb] at hgo
          refine Br.t rfl (ldG J 1 rfl ?_)
          refine (c_high g' _).mono ?_
          rintro r171 w172 ⟨rfl, e172⟩
          have J := J.keep e172
          rw [tdiv_id (by omega), i64_id (n := max (bd g'.hi) 0 / 4) (by omega)]
          refine Br.dec (fun q2 => ?_) fun q2 => ?_
          · rw [decide_eq_true q2] at hgo
            refine ldG J 1 rfl ?_
            refine (c_high g' _).mono ?_
            rintro r174 w175 ⟨rfl, e175⟩
            have J := J.keep e175
            rw [i64_id (n := 0 - max (bd g'.hi) 0) (by omega)]
            refine fin _ _ ?_ J
            rw [hgo, Int.zero_sub]
            rfl
          · rw [decide_eq_false q2] at hgo
            exact fin false _ hgo J
  · have : i = r.length := by omega
    subst this
    rw [← wordsF_at] at I
    have hwl : (wordsF r).length ≤ 2000000 := by
      rw [wordsF_at, List.length_reverse]
      omega
    refine rline_box hwl (fun w' h1 h2 => ?_) I
    exact ⟨⟨sl, rfl, h1⟩, h2⟩
end Rdg
end Go.Proofs.YtodhdkbhmkinjaaDoor

/- The reference's order: Lines and Words. Conditions: sizes. -/
namespace Go.Proofs.YtodhdkbhmkinjaaDoor
namespace Rdg
open Sh
set_option linter.unusedVariables false
set_option linter.unusedSimpArgs false
set_option maxRecDepth 4000
set_option maxHeartbeats 4000000
attribute [local irreducible] Ld St Nw Nn Lt LdS
theorem am (l : List Sg) : l.flatMap acells = l.map fun x => Value.int .i64 (x.at' : Int) := by
  induction l with
  | nil => rfl
  | cons x l ih => rw [List.flatMap_cons, ih]; rfl
theorem cut_take {w : World} {s : Slc} {B : List Sg} {n : Nat} (h : VRow w s 1 (B.flatMap acells)) (hn : n ≤ B.length) : VRow w (s.cut 1 0 n s.cap) 1 ((B.take n).flatMap acells) := by
  refine ⟨by rw [am, List.length_map, List.length_take]; show min n B.length = (n - 0) * 1; omega, fun j v hj => ?_⟩
  have hj' : (B.flatMap acells)[j]? = some v := by
    rw [am, List.map_take, List.getElem?_take] at hj
    rw [am]
    split at hj
    · exact hj
    · cases hj
  obtain ⟨a, ha, hc⟩ := h.2 j v hj'
  show ∃ a', (if s.cap = 0 then s.p else s.p.map (·.add (0 * 1))) = some a' ∧ _
  by_cases h0 : s.cap = 0
  · exact ⟨a, by rw [if_pos h0, ha], hc⟩
  · exact ⟨a.add (0 * 1), by rw [if_neg h0, ha]; rfl, by rw [add_add', show 0 * 1 + j = j by omega]; exact hc⟩
theorem cut_drop {w : World} {s : Slc} {B : List Sg} {n : Nat} (h : VRow w s 1 (B.flatMap acells)) (hn : n ≤ B.length) (hc : s.len ≤ s.cap) : VRow w (s.cut 1 n s.len s.cap) 1 ((B.drop n).flatMap acells) ∧ (s.cut 1 n s.len s.cap).len ≤ (s.cut 1 n s.len s.cap).cap := by
  have hl : s.len = B.length := VRow.count acells_len (by decide) h
  refine ⟨⟨by rw [am, List.length_map, List.length_drop]; show B.length - n = (s.len - n) * 1; omega, fun j v hj => ?_⟩, by show s.len - n ≤ s.cap - n; omega⟩
  have hj' : (B.flatMap acells)[n + j]? = some v := by
    rw [am, List.map_drop, List.getElem?_drop] at hj
    rw [am]
    exact hj
  obtain ⟨a, ha, hcl⟩ := h.2 _ v hj'
  have hlt := (List.getElem?_eq_some_iff.1 hj').1
  rw [am, List.length_map] at hlt
  show ∃ a', (if s.cap = n then s.p else s.p.map (·.add (n * 1))) = some a' ∧ _
  exact ⟨a.add (n * 1), by rw [if_neg (by omega), ha]; rfl, by rw [add_add', Nat.mul_one]; exact hcl⟩
theorem tw_at {α : Type} {p : α → Bool} : ∀ {l : List α} {n : Nat}, n ≤ l.length → (∀ y ∈ l.take n, p y = true) → (∀ y, l[n]? = some y → p y = false) → l.take n = l.takeWhile p ∧ l.drop n = l.dropWhile p
  | [], n, hn, _, _ => by
    have : n = 0 := by simpa using hn
    subst this
    exact ⟨rfl, rfl⟩
  | y :: r, 0, _, _, h => by
    have := h y rfl
    rw [List.takeWhile_cons, List.dropWhile_cons, this]
    exact ⟨rfl, rfl⟩
  | y :: r, n + 1, hn, h1, h2 => by
    have hy := h1 y (by simp)
    obtain ⟨e1, e2⟩ := tw_at (p := p) (l := r) (n := n) (by simpa using hn) (fun z hz => h1 z (by simp [hz])) fun z hz => h2 z (by simpa using hz)
    rw [List.takeWhile_cons, List.dropWhile_cons, hy, List.take_succ_cons, List.drop_succ_cons, e1, e2]
    exact ⟨rfl, rfl⟩
theorem liF_cons (r : List Sg) (R : List (List Sg)) : liF (r :: R) = (if (wordsF r).isEmpty then [] else [lineF r]) ++ liF R := by
  unfold liF
  rw [List.map_cons, List.filter_cons]
  show (if (!(wordsF r).isEmpty) = true then _ else _) = _
  cases (wordsF r).isEmpty <;> rfl
theorem near_self {x : Sg} (h : Cl x) : near x x = true := by
  unfold near
  have := h.hi
  rw [decide_eq_true_eq]
  omega
theorem cut_own {s : Slc} {k l h m j : Nat} (hj : (s.cut k l h m).own j) : s.own j := by
  obtain ⟨a, ha, hb⟩ := hj
  have ha : (if m = l then s.p else s.p.map (·.add (l * k))) = some a := ha
  by_cases e : m = l
  · rw [if_pos e] at ha
    exact ⟨a, ha, hb⟩
  · rw [if_neg e] at ha
    obtain ⟨a0, h0, rfl⟩ := Option.map_eq_some_iff.1 ha
    exact ⟨a0, h0, by rw [← hb, add_block]⟩
/-- What the loop over the rows holds: M is done, B is left. -/
def RI (w3 : World) (L : List Sg) (T : List Ln) (m : Nat) (st : Slc × Slc) (w1 : World) : Prop :=
  ∃ (n : Nat) (B : List Sg) (M : List Ln) (sl : List Slc), B.length ≤ n ∧ m = B.length ∧ VRow w1 st.2 1 (B.flatMap acells) ∧ st.2.len ≤ st.2.cap ∧ (∀ j, st.2.own j → j < w3.heap.size) ∧ LsR w3 w1 st.1 M sl ∧ M ++ liF ((splitF n B).map (sortI ltX)) = T ∧ (∀ x ∈ B, Pl L x) ∧ lets B ≤ 1048576 ∧ M.length + B.length ≤ 1048576 ∧ Ext (fun _ => False) w3 w1
/-- The end of a row. -/
theorem rl_done {w w3 w5 wq : World} {s so sa : Slc} {L B : List Sg} {M : List Ln} {sl : List Slc} {T : List Ln} {x : Sg} {n k : Nat} (hG : GsV w s L) (e3 : Ext (fun _ => False) w w3) (e5 : Ext (fun _ => False) w3 w5) (eq : Ext (fun _ => False) w5 wq)
    (hV : VRow w5 sa 1 (B.flatMap acells)) (hcap : sa.len ≤ sa.cap) (hoa : ∀ j, sa.own j → j < w3.heap.size) (I : LsR w3 w5 so M sl) (hn : B.length ≤ n + 1) (hM : M ++ ((if (wordsF (sortI ltX (B.takeWhile (near x)))).isEmpty then [] else [lineF (sortI ltX (B.takeWhile (near x)))]) ++ liF ((splitF n (B.dropWhile (near x))).map (sortI ltX))) = T)
    (hpl : ∀ x ∈ B, Pl L x) (hlets : lets B ≤ 1048576) (hnum : M.length + B.length ≤ 1048576) (hk : k ≤ B.length) (h1 : ∀ y ∈ B.take k, near x y = true) (h2 : ∀ y, B[k]? = some y → near x y = false) (hk0 : 0 < k) :
    0 ≤ (k : Int) ∧ (k : Int) ≤ ((sa.cap : Nat) : Int) ∧ C30 s (sa.cut 1 0 (((k : Int)).toNat) sa.cap) wq fun r46 vw47 =>
      C29 s r46 vw47 fun r48 vw49 =>
        Nw vw49 (.cells #[Slc.v ((⟨none, 0, 0⟩ : Slc)), .int .i64 0, .int .i64 0, .int .i64 0, .int .i64 0] 40) fun vw50 =>
        StT (⟨vw49.heap.size, 0, none⟩ : Addr) 0 LiA39 r48 vw50 fun vw51 =>
        Ld vw51 (⟨vw49.heap.size, 0, none⟩ : Addr) Slc.v fun (x52 : Slc) =>
        Br (decide (((x52.len : Nat) : Int) > 0)) (LdT vw51 (⟨vw49.heap.size, 0, none⟩ : Addr) 0 LiA39 fun (x53 : TyA39) =>
          Nw vw51 (.cells #[Slc.v x53.1, .int .i64 (x53.2.1), .int .i64 (x53.2.2.1), .int .i64 (x53.2.2.2.1), .int .i64 (x53.2.2.2.2)] 40) fun vw54 =>
          Rn Tryd.prog (Builtin.append_ #[24, 24] 24 #[Slc.v so, Slc.v ((⟨some ⟨vw51.heap.size, 0, none⟩, 1, 1⟩ : Slc))]) vw54 Slc.v fun (x55 : Slc) vw56 =>
          0 ≤ (k : Int) ∧ (k : Int) ≤ ((B.length : Nat) : Int) ∧ ∃ n', n' < B.length ∧ RI w3 L T n' (x55, sa.cut 1 (((k : Int)).toNat) B.length sa.cap) vw56)
          (0 ≤ (k : Int) ∧ (k : Int) ≤ ((B.length : Nat) : Int) ∧ ∃ n', n' < B.length ∧ RI w3 L T n' (so, sa.cut 1 (((k : Int)).toNat) B.length sa.cap) vw51) := by
  have hsl : sa.len = B.length := VRow.count acells_len (by decide) hV
  obtain ⟨t1, t2⟩ := tw_at hk h1 h2
  rw [← t1, ← t2] at hM
  have Eq := e5.tr eq
  have hVq := hV.keep eq
  rw [Int.toNat_natCast]
  have hla : lets B = lets (B.take k) + lets (B.drop k) := by rw [← lets_app, List.take_append_drop]
  have hlk : (B.take k).length = k := by rw [List.length_take]; omega
  have hld : (B.drop k).length = B.length - k := List.length_drop ..
  have hmt : ∀ y ∈ B.take k, Pl L y := fun y hy => hpl y (List.mem_of_mem_take hy)
  have hmd : ∀ y ∈ B.drop k, Pl L y := fun y hy => hpl y (List.mem_of_mem_drop hy)
  have hcd := fun w' (e : Ext (fun _ => False) wq w') => cut_drop (hVq.keep e) hk hcap
  rw [hsl] at hcd
  refine ⟨by omega, by omega, ?_⟩
  refine (c_rising (hG.keepG (e3.tr Eq)) (cut_take hVq hk) hmt (by omega)).mono ?_
  rintro r46 w47 ⟨hR, e47⟩
  have hps := sortI_perm ltX (B.take k)
  have hlp := lets_perm hps
  have hll := hps.length_eq
  refine (c_rline (hG.keepG ((e3.tr Eq).tr e47)) hR (fun y hy => hmt y (hps.mem_iff.1 hy)) (by omega) (by omega)).mono ?_
  rintro r48 w49 ⟨⟨ws, rfl, hW⟩, e49⟩
  generalize sortI ltX (B.take k) = row at *
  refine (Hn.start w49).nw fun w50 J => ?_
  have J : Hn w49 w50 [(w49.heap.size, lcells (⟨none, 0, 0⟩, zB), 40)] := J
  refine stLn (p := (ws, (lineF row).box)) J 0 rfl fun w51 J => ?_
  simp only [List.set_cons_zero] at J
  refine J.ld 0 rfl (x := ws) rfl ?_
  have hwl : ws.len = (wordsF row).length := VRow.count wcells_len (by decide) (Row.view hW)
  have E51 := Eq.tr ((e47.tr e49).tr J.ext)
  have I3 := I.keep (eq.tr ((e47.tr e49).tr J.ext))
  have hd51 := hcd w51 ((e47.tr e49).tr J.ext)
  have b1 : (0 : Int) ≤ (k : Int) := by omega
  have b2 : (k : Int) ≤ ((B.length : Nat) : Int) := by omega
  cases hb : (wordsF row).isEmpty with
  | true =>
    rw [hb, if_pos rfl, List.nil_append] at hM
    have h0 : ws.len = 0 := by rw [hwl, List.isEmpty_iff.1 hb]; rfl
    refine Br.f (by rw [h0]; rfl) ⟨b1, b2, B.length - k, by omega, n, B.drop k, M, sl, by omega, hld.symm, hd51.1, hd51.2, fun j hj => hoa j (cut_own hj), I3, hM, hmd, by omega, by omega, E51⟩
  | false =>
    rw [hb, if_neg (by decide), ← List.append_assoc] at hM
    have h0 : 0 < ws.len := by
      rw [hwl]
      cases hw : wordsF row with
      | nil => rw [hw] at hb; cases hb
      | cons v r => exact Nat.succ_pos _
    refine Br.t (by rw [decide_eq_true_eq]; omega) (ldLn J 0 rfl ?_)
    have hW3 := hW.keep J.ext fun _ _ e => e
    have hcI := I3.count
    have e1 := (Ext.refl (fun _ => False) w51).alloc (.cells (lcells (ws, (lineF row).box)).toArray 40)
    refine Nw.of ?_
    obtain ⟨s', w', hrun, hrow, hlen', hext, hown⟩ := elL.app1 (ty := 24) (ys := lcells (ws, (lineF row).box)) (I3.row.keep e1 fun _ _ e => e) (Blk.new w51 (lcells (ws, (lineF row).box)).toArray 40) rfl (lcells_one _) (by omega) (by omega)
    have hne : (40 : TypeId) ≠ 44 := by decide
    have E' : Ext (fun _ => False) w3 w' := ext_new (E51.tr e1) hext I3.new
    have hV' : VRow w' (sa.cut 1 k B.length sa.cap) 1 ((B.drop k).flatMap acells) := VRow.keepF (hd51.1.keep e1) hext fun j hj e => by
      have h1 := hoa j (cut_own hj)
      have h2 := I3.new j e
      omega
    refine ⟨s', w', hrun, b1, b2, B.length - k, by omega, n, B.drop k, M ++ [lineF row], sl ++ [ws], by omega, hld.symm, hV', hd51.2, fun j hj => hoa j (cut_own hj), ⟨?_, ?_, fun i x q' h1 h2 => ?_, fun j hj => ?_⟩, hM, hmd, by omega, by rw [List.length_append, List.length_singleton]; omega, E'⟩
    · rw [List.length_append, List.length_append, I.len]
      rfl
    · rw [List.map_append, List.map_singleton, zip_snoc (by rw [List.length_map, I.len]), List.flatMap_append]
      simpa using hrow
    · have old : Row (w51.alloc (.cells (lcells (ws, (lineF row).box)).toArray 40)) q' 44 5 (x.words.flatMap wcells) := by
        by_cases hk : i < M.length
        · rw [List.getElem?_append_left hk] at h1
          rw [List.getElem?_append_left (by rw [I.len]; exact hk)] at h2
          exact (I3.words i x q' h1 h2).keep e1 fun _ _ e => e
        · have hk2 : i = M.length := by
            have := (List.getElem?_eq_some_iff.1 h1).1
            rw [List.length_append, List.length_singleton] at this
            omega
          subst hk2
          rw [List.getElem?_append_right (Nat.le_refl _), Nat.sub_self] at h1
          rw [List.getElem?_append_right (by rw [I.len]; exact Nat.le_refl _), I.len, Nat.sub_self] at h2
          cases h1
          cases h2
          exact hW3.keep e1 fun _ _ e => e
      exact old.keep hext fun j hj e => own_apart (I3.row.keep e1 fun _ _ e => e) old hne j e hj
    · rcases hown j hj with e | e
      · exact I3.new j e
      · have := (E51.tr e1).size
        omega
theorem c_RLines {w : World} {s : Slc} {L : List Sg} (hG : GsV w s L) : C10 s w fun r w1 => (∃ ss, LsV w1 r (linesF (allF L)) ss) ∧ Ext (fun _ => False) w w1 := by
  have hlen : s.len = L.length := VRow.count gcells_len (by decide) hG.row
  refine T10 _ _ _ ?_
  unfold S10
  refine (c_falling hG).mono ?_
  rintro r2 w3 ⟨⟨hA, hcap, hoa⟩, e3⟩
  have hlin : linesF (allF L) = liF ((splitF (sortI ltY (allF L)).length (sortI ltY (allF L))).map (sortI ltX)) := rfl
  rw [hlin]
  have hmem : ∀ x ∈ sortI ltY (allF L), Pl L x := fun x hx => allF_pl ((sortI_perm ltY _).mem_iff.1 hx)
  have hlets : lets (sortI ltY (allF L)) ≤ 1048576 := by
    have h1 := lets_perm (sortI_perm ltY (allF L))
    have h2 := lets_all 0 L
    have h4 := hG.lets
    unfold allF at h1 ⊢
    omega
  have hnum : (sortI ltY (allF L)).length ≤ 1048576 := by
    have h1 := (sortI_perm ltY (allF L)).length_eq
    have h3 := allN_len 0 L
    have h5 := hG.most
    unfold allF at h1 ⊢
    omega
  clear hlin
  generalize sortI ltY (allF L) = A at *
  refine ⟨RI w3 L (liF ((splitF A.length A).map (sortI ltX))), A.length,
    ⟨A.length, A, [], [], Nat.le_refl _, rfl, hA, hcap, hoa, ⟨rfl, Row.nil _ _ _, fun i x q h h2 => by simp at h, fun j hj => (no_own j hj).elim⟩, rfl, hmem, hlets, by simpa using hnum, Ext.refl _ _⟩, ?_⟩
  clear hA hcap hmem hlets hnum hoa
  generalize liF ((splitF A.length A).map (sortI ltX)) = T
  rintro m ⟨so, sa⟩ w5 ⟨n, B, M, sl, hn, rfl, hV, hcap, hoa, I, hM, hpl, hlets, hnum, e5⟩
  simp only at hV hcap I hoa
  unfold S10L2
  dsimp only
  have hsl : sa.len = B.length := VRow.count acells_len (by decide) hV
  rcases B with _ | ⟨x, r'⟩
  · refine Br.f (by rw [hsl]; rfl) ?_
    have : liF ((splitF n []).map (sortI ltX)) = [] := by cases n <;> rfl
    rw [this, List.append_nil] at hM
    rw [← hM]
    exact ⟨⟨sl, I.len, Row.view I.row, fun i x q h1 h2 => Row.view (I.words i x q h1 h2)⟩, e3.tr e5⟩
  · obtain ⟨n, rfl⟩ : ∃ n', n = n' + 1 := ⟨n - 1, by simp only [List.length_cons] at hn; omega⟩
    obtain ⟨g, hg, hx⟩ := hpl x List.mem_cons_self
    have hxc : Cl x := by rw [hx]; exact clamp_cl _ _
    have hself := near_self hxc
    have hspl : splitF (n + 1) (x :: r') = (x :: r'.takeWhile (near x)) :: splitF n (r'.dropWhile (near x)) := rfl
    have htw : (x :: r').takeWhile (near x) = x :: r'.takeWhile (near x) := by rw [List.takeWhile_cons, hself]; rfl
    have hdw : (x :: r').dropWhile (near x) = r'.dropWhile (near x) := by rw [List.dropWhile_cons, hself]; rfl
    rw [hspl, List.map_cons, liF_cons, ← htw, ← hdw] at hM
    have hx0 : (x :: r')[0]? = some x := rfl
    have hbl2 : 0 < (x :: r').length := Nat.succ_pos _
    clear hspl htw hdw
    generalize x :: r' = B at *
    have e5d := e5.drew
    have hVd := hV.keep (Ext.refl (fun _ => False) w5).drew
    have hGd := hG.keepG (e3.tr e5d)
    have dn := fun (wq : World) (k : Nat) (eq : Ext (fun _ => False) w5 wq) => rl_done (k := k) hG e3 e5 eq hV hcap hoa I hn hM hpl hlets hnum
    rw [hsl]
    refine Br.t (by rw [decide_eq_true_eq]; omega) ⟨Ext (fun _ => False) w5.drew, Ext.refl _ _, ?_⟩
    obtain ⟨a, ha, hc⟩ := VRow.elem acells_len hVd hx0 (by decide)
    obtain ⟨a2, ha2, hc2⟩ := VRow.elem gcells_len hGd.row hg (by decide)
    have hgl := (List.getElem?_eq_some_iff.1 hg).1
    rw [ha, ha2]
    refine ⟨by decide, by omega, Nn.of (ldS_ext (x := (x.at' : Int)) (by have := hc 0 _ rfl; simpa using this) ⟨by omega, by omega, Nn.of ?_⟩)⟩
    rw [Int.toNat_natCast]
    refine ldGS (g := g) (fun j v hj => by rw [add_add']; exact hc2 j v hj) ?_
    refine (Hn.start w5.drew).nw fun w12 H => ?_
    have H : Hn w5.drew w12 [(w5.drew.heap.size, gcells zeroG, 32)] := H
    refine ⟨H.ext, stG (x := g) H 0 rfl fun w13 H => ?_⟩
    simp only [List.set_cons_zero] at H
    refine ⟨fun m st w1 => ∃ k : Nat, st = (k : Int) ∧ k ≤ B.length ∧ m = B.length - k ∧ (∀ y ∈ B.take k, near x y = true) ∧ Hn w5.drew w1 [(w5.drew.heap.size, gcells g, 32)], B.length, ⟨0, rfl, Nat.zero_le _, rfl, fun y hy => by simp at hy, H⟩, ?_⟩
    clear H
    rintro m st w31 ⟨k, rfl, hk, rfl, hnr, H⟩
    unfold S10L1
    dsimp only
    have E31 : Ext (fun _ => False) w5 w31 := (Ext.refl (fun _ => False) w5).drew.tr H.ext
    have E31d := E31.drew
    have Hd := H.drew
    rw [hsl]
    have hk0 : (∀ y, B[k]? = some y → near x y = false) → 0 < k := fun h => by
      rcases Nat.eq_zero_or_pos k with e | e
      · subst e
        have := h x hx0
        rw [hself] at this
        cases this
      · exact e
    have cb : ∀ {j : Nat} {v : Value}, (gcells g)[j]? = some v → w31.drew.cell? ((⟨w5.drew.heap.size, 0, none⟩ : Addr).add j) = some v := fun hj => by rw [add_lit, Nat.zero_add, (Hd.get 0 rfl).cell]; simpa using hj
    refine ⟨Ext (fun _ => False) w31.drew, Ext.refl _ _, ?_⟩
    refine Br.dec (fun q => ?_) fun q => ?_
    · have hkl : k < B.length := by omega
      have gy : B[k]? = some B[k] := List.getElem?_eq_getElem hkl
      obtain ⟨g', hg', hy⟩ := hpl _ (List.getElem_mem hkl)
      obtain ⟨a3, ha3, hc3⟩ := VRow.elem acells_len (hV.keep E31d) gy (by decide)
      rw [ha] at ha3
      cases ha3
      have htk := take_one hkl
      generalize B[k] = y at *
      have hgl' := (List.getElem?_eq_some_iff.1 hg').1
      obtain ⟨a4, ha4, hc4⟩ := VRow.elem gcells_len (hG.keepG ((e3.tr e5).tr E31d)).row hg' (by decide)
      rw [ha2] at ha4
      cases ha4
      have hxf : x.fy = bd g.fy := by rw [hx]; rfl
      have hxh : x.hi = max (bd g.hi) 0 := by rw [hx]; rfl
      have hyf : y.fy = bd g'.fy := by rw [hy]; rfl
      have n1 := bd_in g.fy
      have n2 := bd_in g'.fy
      have n3 := bd_in g.hi
      have hnear : near x y = decide (bd g.fy - bd g'.fy ≤ max (bd g.hi) 0 / 2) := by unfold near; rw [hxf, hxh, hyf]
      rw [ha, hlen, ha2]
      have b1 : (0 : Int) ≤ (k : Int) := by omega
      have b2 : (k : Int) < ((B.length : Nat) : Int) := by omega
      have b3 : (0 : Int) ≤ (y.at' : Int) := by omega
      have b4 : (y.at' : Int) < ((L.length : Nat) : Int) := by omega
      have cc : w31.drew.cell? (a.add ((k : Int).toNat * 1)) = some (.int .i64 (y.at' : Int)) := by
        rw [Int.toNat_natCast]
        have := hc3 0 _ rfl
        simpa using this
      have cf : w31.drew.cell? (((⟨w5.drew.heap.size, 0, none⟩ : Addr).add 2).add 1) = some (.int .i64 g.fy) := by rw [add_add']; exact cb rfl
      refine ldS_ext (x := g.fy) cf ⟨b1, b2, Nn.of (ldS_ext (x := (y.at' : Int)) cc ⟨b3, b4, Nn.of ?_⟩)⟩
      refine ldS_ext (x := g'.fy) (by rw [Int.toNat_natCast, add_add', add_add']; exact hc4 3 _ rfl) (ldGS (g := g) (fun j v hj => cb hj) ?_)
      refine (c_held g.fy _).mono ?_
      rintro r40 w41 ⟨rfl, rfl⟩
      refine ⟨Ext.refl _ _, (c_held g'.fy _).mono ?_⟩
      rintro r42 w43 ⟨rfl, rfl⟩
      refine ⟨Ext.refl _ _, (c_high g _).mono ?_⟩
      rintro r44 w45 ⟨rfl, e45⟩
      rw [i64_id (n := bd g.fy - bd g'.fy) (by omega), tdiv_id (by omega), i64_id (n := max (bd g.hi) 0 / 2) (by omega)]
      have nx : near x y = true → ∃ n', n' < B.length - k ∧ ∃ k_1 : Nat, IntKind.i64.wrap ((k : Int) + 1) = (k_1 : Int) ∧ k_1 ≤ B.length ∧ n' = B.length - k_1 ∧ (∀ y ∈ B.take k_1, near x y = true) ∧ Hn w5.drew w45 [(w5.drew.heap.size, gcells g, 32)] := fun h =>
        ⟨B.length - (k + 1), by omega, k + 1, by rw [i64_id (by omega)]; rfl, by omega, rfl, fun z hz => by
          rw [htk] at hz
          rcases List.mem_append.1 hz with hz | hz
          · exact hnr z hz
          · rw [List.mem_singleton] at hz
            subst hz
            exact h, Hd.keep e45⟩
      refine Br.dec (fun q2 => nx (by rw [hnear, decide_eq_true q2])) fun q2 => ?_
      have hno : ∀ z, B[k]? = some z → near x z = false := fun z hz => by
        rw [gy] at hz
        cases hz
        rw [hnear, decide_eq_false q2]
      exact dn w45 k (E31d.tr e45) hk hnr hno (hk0 hno)
    · have hno : ∀ z, B[k]? = some z → near x z = false := fun z hz => absurd (List.getElem?_eq_some_iff.1 hz).1 (by omega)
      exact dn w31.drew k E31d hk hnr hno (hk0 hno)
theorem c_RWords {w : World} {s : Slc} {L : List Sg} (hG : GsV w s L) : C16 s w fun r w1 => WsV w1 r (allW (allF L)) ∧ Ext (fun _ => False) w w1 := by
  refine T16 _ _ _ ?_
  unfold S16
  refine (c_RLines hG).mono ?_
  rintro r2 w3 ⟨⟨ss, hL⟩, e3⟩
  have hm : ((linesF (allF L)).flatMap Ln.words).length ≤ 1048576 := by
    have h1 : ((linesF (allF L)).flatMap Ln.words).length ≤ (allF L).length := allW_len (allF L)
    have h3 : (allF L).length ≤ L.length := allN_len 0 L
    have h5 := hG.most
    omega
  have hmn : (linesF (allF L)).length ≤ 1048576 := by
    have h1 : (linesF (allF L)).length ≤ (rowsF (allF L)).length := liF_len _
    have h2 := rowsF_count (allF L)
    have h3 := allN_len 0 L
    have h5 := hG.most
    unfold allF at h1 h2 ⊢
    omega
  unfold allW
  generalize linesF (allF L) = M at *
  have hr2 := hL.count
  refine ⟨fun m st w1 => ∃ i : Nat, st.2 = (i : Int) ∧ i ≤ M.length ∧ m = M.length - i ∧ Row w1 st.1 44 5 (((M.take i).flatMap Ln.words).flatMap wcells) ∧ (∀ j, st.1.own j → w3.heap.size ≤ j) ∧ Ext (fun _ => False) w3 w1, M.length, ⟨0, rfl, Nat.zero_le _, rfl, Row.nil _ _ _, fun j hj => (no_own j hj).elim, Ext.refl _ _⟩, ?_⟩
  rintro m ⟨so, i'⟩ w5 ⟨i, hi', hi, rfl, hR, ho, e5⟩
  simp only at hi' hR ho
  subst hi'
  unfold S16L1
  dsimp only
  rw [hr2]
  refine Br.dec (fun q => ?_) fun q => ?_
  · have hil : i < M.length := by omega
    obtain ⟨a, p, ha, hp, hW, hc⟩ := (hL.keep e5).at (List.getElem?_eq_getElem hil)
    have htk := take_one hil
    have h1 := fm_take Ln.words M (i + 1)
    rw [htk, List.flatMap_append, List.length_append] at h1
    have h2 : ([M[i]].flatMap Ln.words) = M[i].words := by simp
    rw [h2] at h1
    have hfl : ((M.take (i + 1)).flatMap Ln.words).flatMap wcells = ((M.take i).flatMap Ln.words).flatMap wcells ++ (M[i].words).flatMap wcells := by rw [htk, List.flatMap_append, h2, List.flatMap_append]
    generalize M[i] = x at *
    rw [ha]
    refine ⟨by omega, by omega, Nn.of (Ld.mk (x := p) (by rw [Int.toNat_natCast]; have := hc 0 _ rfl; simpa using this) ?_)⟩
    have hpc := hW.count
    have hso : so.len = ((M.take i).flatMap Ln.words).length := VRow.count wcells_len (by decide) (Row.view hR)
    obtain ⟨s', w', hrun, hrow, hlen', hext, hown⟩ := elW.app (ty := 35) hR hW flat_one (by omega) (by omega)
    refine ⟨s', w', hrun, M.length - (i + 1), by omega, i + 1, by rw [i64_id (by omega)]; rfl, by omega, rfl, by rw [hfl]; exact hrow, fun j hj => ?_, ext_new e5 hext ho⟩
    rcases hown j hj with e | e
    · exact ho j e
    · have := e5.size
      omega
  · have : i = M.length := by omega
    subst this
    rw [List.take_length] at hR
    exact ⟨Row.view hR, e3.tr e5⟩
end Rdg
end Go.Proofs.YtodhdkbhmkinjaaDoor

/- Order's laws: Tells. Conditions: sizes. -/
namespace Go.Proofs.YtodhdkbhmkinjaaDoor
namespace Rdg
open Sh
set_option linter.unusedVariables false
set_option linter.unusedSimpArgs false
set_option maxRecDepth 4000
set_option maxHeartbeats 2000000
attribute [local irreducible] Ld St Nw Nn Lt LdS
theorem bytesS_le : ∀ L : List Sg, (bytesS L).length ≤ lets L
  | [] => Nat.le_refl _
  | x :: L => by
    have := bytesS_le L
    have e : lets (x :: L) = x.s.size + lets L := rfl
    rw [e]
    unfold bytesS at *
    rw [List.filter_cons]
    have h : x.s.data.toList.length = x.s.size := Array.length_toList
    split
    · rw [List.flatMap_cons, List.length_append]
      omega
    · omega
theorem letsW_bytes : ∀ ws : List Wd, letsW ws = (bytesW ws).length
  | [] => rfl
  | v :: r => by
    have := letsW_bytes r
    have h : v.s.data.toList.length = v.s.size := Array.length_toList
    unfold letsW bytesW at *
    simp only [List.map_cons, List.sum_cons, List.flatMap_cons, List.length_append]
    omega
theorem letsL_bytes : ∀ M : List Ln, letsL M = (M.flatMap fun x => bytesW x.words).length + (M.flatMap Ln.words).length
  | [] => rfl
  | m :: r => by
    have := letsL_bytes r
    have := letsW_bytes m.words
    unfold letsL at *
    simp only [List.map_cons, List.sum_cons, List.flatMap_cons, List.length_append]
    omega
theorem c_Tells {w : World} {s : Slc} {L : List Sg} (hG : GsV w s L) : C3 s w fun r w1 => r = true ∧ Ext (fun _ => False) w w1 := by
  have hlen : s.len = L.length := VRow.count gcells_len (by decide) hG.row
  have hmost := hG.most
  refine T3 _ _ _ ?_
  unfold S3
  refine Br.dec (fun _ => c_livesT (Ext.refl _ w)) fun _ => ?_
  refine (c_Lines hG).mono ?_
  rintro r6 w7 ⟨⟨ss, hA⟩, e7⟩
  refine (c_RLines (hG.keepG e7)).mono ?_
  rintro r8 w9 ⟨⟨tt, hB⟩, e9⟩
  have hA := hA.keep e9
  have E9 := e7.tr e9
  have hlw : (allF L).length ≤ L.length := allN_len 0 L
  have hwl : ((linesF (allF L)).flatMap Ln.words).length ≤ 1048576 := by
    have h1 : ((linesF (allF L)).flatMap Ln.words).length ≤ (allF L).length := allW_len (allF L)
    omega
  have hml : (linesF (allF L)).length ≤ 1048576 := by
    have h1 : (linesF (allF L)).length ≤ (rowsF (allF L)).length := liF_len _
    have h2 := rowsF_count (allF L)
    omega
  have hbl : ((linesF (allF L)).flatMap fun x => bytesW x.words).length ≤ 1048576 := by
    have h := (lines_bytes (allF L)).length_eq
    have h1 := bytesS_le (allF L)
    have h2 : lets (allF L) ≤ lets L := lets_all 0 L
    have h3 := hG.lets
    omega
  have hww : (allW (allF L)).length ≤ 1048576 := hwl
  have hLt := letsL_bytes (linesF (allF L))
  generalize hW : allW (allF L) = W at *
  generalize hM : linesF (allF L) = M at *
  have hmw : ∀ m ∈ M, m.words.length ≤ 1048576 := fun m hm => by
    obtain ⟨i, hi⟩ := List.mem_iff_getElem?.1 hm
    have h1 := fm_take Ln.words M (i + 1)
    have hlt := (List.getElem?_eq_some_iff.1 hi).1
    rw [take_one hlt, List.flatMap_append, List.length_append] at h1
    have h2 : ([M[i]].flatMap Ln.words) = m.words := by
      rw [(List.getElem?_eq_some_iff.1 hi).2]
      simp
    rw [h2] at h1
    omega
  have htl := tl_len M
  refine ⟨fun m st w1 => ∃ i : Nat, st = (i : Int) ∧ i ≤ L.length ∧ m = L.length - i ∧ Ext (fun _ => False) w9 w1, L.length, ⟨0, rfl, Nat.zero_le _, rfl, Ext.refl _ _⟩, ?_⟩
  rintro m st w23 ⟨i, rfl, hi, rfl, e23⟩
  unfold S3L1
  rw [hlen]
  have E23 := E9.tr e23
  refine Br.dec (fun q => ?_) fun q => ?_
  · have hil : i < L.length := by omega
    obtain ⟨a, ha, hc⟩ := VRow.elem gcells_len (hG.keepG E23.drew).row (List.getElem?_eq_getElem hil) (by decide)
    generalize L[i] = g at *
    have b1 : (0 : Int) ≤ (i : Int) := by omega
    have b2 : (i : Int) < ((L.length : Nat) : Int) := by omega
    have cg : ∀ j v, (gcells g)[j]? = some v → w23.drew.cell? ((a.add ((i : Int).toNat * 9)).add j) = some v := fun j v hj => by
      rw [Int.toNat_natCast, add_add']
      exact hc j v hj
    rw [ha]
    refine ⟨Ext (fun _ => False) w23.drew, Ext.refl _ _, b1, b2, Nn.of (ldGS (g := g) cg ⟨b1, b2, Nn.of (ldGS (g := g) cg ?_)⟩)⟩
    refine (c_Box g _).mono ?_
    rintro r30 w31 ⟨rfl, e31⟩
    refine ⟨e31, (c_RBox g _).mono ?_⟩
    rintro r32 w33 ⟨rfl, e33⟩
    refine Br.f ?_ ⟨L.length - (i + 1), by omega, i + 1, by rw [i64_id (by omega)]; rfl, by omega, rfl, (e23.drew.tr e31).tr e33⟩
    have := (bx_eq (clampS g 0).box (clampS g 0).box).2 rfl
    unfold bxB at this
    rw [this]
    rfl
  · refine (c_RSame (hA.keep e23) (hB.keep e23) hml hmw).mono ?_
    rintro r34 w35 ⟨h34, e35⟩
    have h34 := h34.2 rfl
    subst h34
    have E35 := E23.tr e35
    refine Br.t rfl ((c_Words (hG.keepG E35)).mono ?_)
    rintro r36 w37 ⟨hW1, e37⟩
    refine (c_RWords (hG.keepG (E35.tr e37))).mono ?_
    rintro r38 w39 ⟨hW2, e39⟩
    rw [hW] at hW1 hW2
    refine (c_RList (hW1.keep e39) hW2 hww).mono ?_
    rintro r40 w41 ⟨h40, e41⟩
    have h40 := h40.2 rfl
    subst h40
    have e9' := ((e23.tr e35).tr (e37.tr e39)).tr e41
    refine Br.t rfl ((c_Text (hA.keep e9') hml hmw (by omega)).mono ?_)
    rintro r42 w43 ⟨rfl, e43⟩
    refine (c_RText (hB.keep (e9'.tr e43)) hml hmw (by omega)).mono ?_
    rintro r44 w45 ⟨rfl, e45⟩
    exact Br.t (by rw [eqL]; simp) (c_livesT (E9.tr ((e9'.tr e43).tr e45)))
end Rdg
end Go.Proofs.YtodhdkbhmkinjaaDoor

/- Objects: rows of them, numbers among them, copies of an array of numbers. Conditions: sizes. -/
import Derived.Test.YtdchpkbpnfoknaaDoorQQPaths3
import Derived.Test.YtdchpkbpnfoknaaDoorQQPaths2
import Derived.Laws.Strings
import Derived.Laws.RangeString
namespace Go.Proofs.YtdchpkbpnfoknaaDoor
namespace Mat
open Sh Fix
set_option linter.unusedVariables false
set_option linter.unusedSimpArgs false
set_option maxRecDepth 4000
set_option maxHeartbeats 1000000

abbrev Ob := Int × Int × Int × ByteArray × Slc × Slc
abbrev nilS : Slc := ⟨none, 0, 0⟩
def obrow (o : Ob) : List Value := [.int .i64 o.1, .int .i64 o.2.1, .int .i64 o.2.2.1, .string o.2.2.2.1, Slc.v o.2.2.2.2.1, Slc.v o.2.2.2.2.2]
def ob0 : Ob := (0, 0, 0, ⟨#[]⟩, nilS, nilS)
theorem elOb : El Tryd.prog 28 64 6 88 (.agg (obrow ob0).toArray) := ⟨by kernel_rfl, by kernel_rfl, by kernel_rfl, by kernel_rfl, rfl⟩
theorem ob_one (o : Ob) : ∀ v ∈ obrow o, v.oneCell' = true := by
  intro v hv
  simp only [obrow, List.mem_cons, List.not_mem_nil, or_false] at hv
  rcases hv with rfl | rfl | rfl | rfl | rfl | rfl <;> rfl
theorem obs_one (L : List Ob) : ∀ v ∈ L.flatMap obrow, v.oneCell' = true := by
  intro v hv
  obtain ⟨o, _, h⟩ := List.mem_flatMap.1 hv
  exact ob_one o v h
theorem obs_len (L : List Ob) : (L.flatMap obrow).length = L.length * 6 := by
  induction L with
  | nil => rfl
  | cons o L ih => rw [List.flatMap_cons, List.length_append, ih, List.length_cons]; simp [obrow]; omega
theorem obs_get {L : List Ob} {i j : Nat} {o : Ob} (hi : L[i]? = some o) (hj : j < 6) : (L.flatMap obrow)[i * 6 + j]? = (obrow o)[j]? := by
  induction L generalizing i with
  | nil => cases hi
  | cons p L ih =>
    rw [List.flatMap_cons]
    cases i with
    | zero =>
      cases hi
      rw [Nat.zero_mul, Nat.zero_add, List.getElem?_append_left (by simp [obrow]; omega)]
    | succ i =>
      rw [List.getElem?_append_right (by simp [obrow]; omega), ← ih (by simpa using hi)]
      congr 1
      simp only [obrow, List.length_cons, List.length_nil]
      omega
/-- The objects of a slice. -/
def OV (w : World) (s : Slc) (L : List Ob) : Prop := s.len = L.length ∧ VRow w s 6 (L.flatMap obrow)
/-- A whole block as a slice. -/
abbrev rowS (g n : Nat) : Slc := ⟨some ⟨g, 0, none⟩, n, n⟩
theorem OV.of {w : World} {g : Nat} {L : List Ob} {t : TypeId} (h : Blk w g (L.flatMap obrow).toArray t) : OV w (rowS g L.length) L := ⟨rfl, VRow.of h (obs_len L)⟩
theorem OV.keep {w w' : World} {s : Slc} {L : List Ob} (h : OV w s L) (he : Ext (fun _ => False) w w') : OV w' s L := ⟨h.1, h.2.keep he⟩
theorem OV.get {w : World} {s : Slc} {L : List Ob} (h : OV w s L) {i : Nat} {o : Ob} (hi : L[i]? = some o) : ∃ a, s.p = some a ∧ w.cell? (a.add (i * 6)) = some (.int .i64 o.1) ∧ w.cell? ((a.add (i * 6)).add 1) = some (.int .i64 o.2.1) ∧ w.cell? ((a.add (i * 6)).add 2) = some (.int .i64 o.2.2.1) ∧
    w.cell? ((a.add (i * 6)).add 3) = some (.string o.2.2.2.1) ∧ w.cell? ((a.add (i * 6)).add 4) = some (Slc.v o.2.2.2.2.1) ∧ w.cell? ((a.add (i * 6)).add 5) = some (Slc.v o.2.2.2.2.2) := by
  have g : ∀ j v, j < 6 → (obrow o)[j]? = some v → ∃ a, s.p = some a ∧ w.cell? ((a.add (i * 6)).add j) = some v := fun j v hj hv => by
    obtain ⟨a, ha, hc⟩ := h.2.2 (i * 6 + j) v (by rw [obs_get hi hj]; exact hv)
    exact ⟨a, ha, by rw [add_add']; exact hc⟩
  obtain ⟨a, ha, c0⟩ := g 0 _ (by omega) rfl
  obtain ⟨a1, ha1, c1⟩ := g 1 _ (by omega) rfl
  obtain ⟨a2, ha2, c2⟩ := g 2 _ (by omega) rfl
  obtain ⟨a3, ha3, c3⟩ := g 3 _ (by omega) rfl
  obtain ⟨a4, ha4, c4⟩ := g 4 _ (by omega) rfl
  obtain ⟨a5, ha5, c5⟩ := g 5 _ (by omega) rfl
  rw [ha] at ha1 ha2 ha3 ha4 ha5
  cases ha1; cases ha2; cases ha3; cases ha4; cases ha5
  exact ⟨a, ha, by rw [add_add'] at c0; exact c0, c1, c2, c3, c4, c5⟩
/-- A number as an object. -/
def numO (n : Int) : Ob := if Int.tmod n 10000 = 0 then (2, Int.tdiv n 10000, 0, ⟨#[]⟩, nilS, nilS) else (3, n, 0, ⟨#[]⟩, nilS, nilS)
/-- The number of an object. -/
def numV (o : Ob) : Option Int := if o.1 = 2 then (if -107374 ≤ o.2.1 ∧ o.2.1 ≤ 107374 then some (o.2.1 * 10000) else none) else if o.1 = 3 then (if inW o.2.1 = true then some o.2.1 else none) else none
def resN : Option Int → Int × Bool
  | some n => (n, true)
  | none => (0, false)
attribute [local irreducible] Ld St Nw Nn Lt LdS
theorem c_within2 (n a b : Int) (w : World) : C63 n a b w fun r w1 => r = decide (a ≤ n ∧ n ≤ b) ∧ w1 = w := by
  refine T63 _ _ _ _ _ ?_
  unfold S63
  refine Br.dec (fun h => ⟨decide_eq_decide.2 (by omega), rfl⟩) fun h => ⟨(decide_eq_false (by omega)).symm, rfl⟩
theorem c_number (o : Ob) (w : World) : C46 o w fun r b w1 => (r, b) = resN (numV o) ∧ Ext (fun _ => False) w w1 := by
  refine T46 _ _ _ ?_
  unfold S46
  refine (Hn.start w).nw fun w2 H => ?_
  repeat (first | refine H.ld 0 rfl rfl ?_ | refine H.ld 1 rfl rfl ?_ | refine H.ld 2 rfl rfl ?_ | refine H.ld 3 rfl rfl ?_ | refine H.ld 4 rfl rfl ?_ | refine H.ld 5 rfl rfl ?_)
  unfold numV
  refine Br.eq (fun h => (c_within2 _ _ _ _).mono ?_) fun h => Br.eq (fun h2 => (c_within2 _ _ _ _).mono ?_) fun h2 => ?_
  · rintro r _ ⟨rfl, rfl⟩
    rw [if_pos h]
    by_cases hb : -107374 ≤ o.2.1 ∧ o.2.1 ≤ 107374
    · rw [if_pos hb, decide_eq_true hb]
      refine Br_of (fun h => by cases h) fun _ => (c_within2 _ _ _ _).mono ?_
      rintro r _ ⟨rfl, rfl⟩
      rw [i64_id (by omega), decide_eq_true (by omega)]
      exact Br_of (fun h => by cases h) fun _ => ⟨rfl, H.ext⟩
    · rw [if_neg hb, decide_eq_false hb]
      exact Br_of (fun _ => ⟨rfl, H.ext⟩) fun h => by cases h
  · rintro r _ ⟨rfl, rfl⟩
    rw [if_neg h, if_pos h2]
    show Br (!inW o.2.1) _ _
    cases inW o.2.1 with
    | true => exact Br_of (fun h => by cases h) fun _ => ⟨rfl, H.ext⟩
    | false => exact Br_of (fun _ => ⟨rfl, H.ext⟩) fun h => by cases h
  · rw [if_neg h, if_neg h2]
    exact ⟨rfl, H.ext⟩
theorem c_int (n : Int) (w : World) : C41 n w fun r w1 => r = (2, n, 0, ⟨#[]⟩, nilS, nilS) ∧ Ext (fun _ => False) w w1 := by
  refine T41 _ _ _ ?_
  unfold S41
  refine (Hn.start w).nw fun w2 H => ?_
  repeat (first | refine Lt.of ?_ | refine Nn.of ?_ | refine H.ld 0 rfl rfl ?_ | refine H.ld 1 rfl rfl ?_ | refine H.ld 2 rfl rfl ?_ | refine H.ld 3 rfl rfl ?_ | refine H.ld 4 rfl rfl ?_ | refine H.ld 5 rfl rfl ?_ | (refine H.st 0 rfl (by simp) fun _ H => ?_; simp only [List.nil_append, List.cons_append, List.set_cons_zero, List.set_cons_succ, Nat.zero_add] at H) | (refine H.st 1 rfl (by simp) fun _ H => ?_; simp only [List.nil_append, List.cons_append, List.set_cons_zero, List.set_cons_succ, Nat.zero_add] at H) | (refine H.st 2 rfl (by simp) fun _ H => ?_; simp only [List.nil_append, List.cons_append, List.set_cons_zero, List.set_cons_succ, Nat.zero_add] at H) | (refine H.st 3 rfl (by simp) fun _ H => ?_; simp only [List.nil_append, List.cons_append, List.set_cons_zero, List.set_cons_succ, Nat.zero_add] at H) | (refine H.st 4 rfl (by simp) fun _ H => ?_; simp only [List.nil_append, List.cons_append, List.set_cons_zero, List.set_cons_succ, Nat.zero_add] at H) | (refine H.st 5 rfl (by simp) fun _ H => ?_; simp only [List.nil_append, List.cons_append, List.set_cons_zero, List.set_cons_succ, Nat.zero_add] at H))
  exact ⟨rfl, H.ext⟩
theorem c_real (n : Int) (w : World) : C28 n w fun r w1 => r = (3, n, 0, ⟨#[]⟩, nilS, nilS) ∧ Ext (fun _ => False) w w1 := by
  refine T28 _ _ _ ?_
  unfold S28
  refine (Hn.start w).nw fun w2 H => ?_
  repeat (first | refine Lt.of ?_ | refine Nn.of ?_ | refine H.ld 0 rfl rfl ?_ | refine H.ld 1 rfl rfl ?_ | refine H.ld 2 rfl rfl ?_ | refine H.ld 3 rfl rfl ?_ | refine H.ld 4 rfl rfl ?_ | refine H.ld 5 rfl rfl ?_ | (refine H.st 0 rfl (by simp) fun _ H => ?_; simp only [List.nil_append, List.cons_append, List.set_cons_zero, List.set_cons_succ, Nat.zero_add] at H) | (refine H.st 1 rfl (by simp) fun _ H => ?_; simp only [List.nil_append, List.cons_append, List.set_cons_zero, List.set_cons_succ, Nat.zero_add] at H) | (refine H.st 2 rfl (by simp) fun _ H => ?_; simp only [List.nil_append, List.cons_append, List.set_cons_zero, List.set_cons_succ, Nat.zero_add] at H) | (refine H.st 3 rfl (by simp) fun _ H => ?_; simp only [List.nil_append, List.cons_append, List.set_cons_zero, List.set_cons_succ, Nat.zero_add] at H) | (refine H.st 4 rfl (by simp) fun _ H => ?_; simp only [List.nil_append, List.cons_append, List.set_cons_zero, List.set_cons_succ, Nat.zero_add] at H) | (refine H.st 5 rfl (by simp) fun _ H => ?_; simp only [List.nil_append, List.cons_append, List.set_cons_zero, List.set_cons_succ, Nat.zero_add] at H))
  exact ⟨rfl, H.ext⟩
theorem c_id (o : Ob) (w : World) : C74 o w fun r w1 => r = o ∧ Ext (fun _ => False) w w1 := by
  refine T74 _ _ _ ?_
  unfold S74
  refine (Hn.start w).nw fun w2 H => H.nw fun w3 H => ?_
  repeat (first | refine Lt.of ?_ | refine Nn.of ?_ | refine H.ld 0 rfl rfl ?_ | refine H.ld 1 rfl rfl ?_ | refine H.ld 2 rfl rfl ?_ | refine H.ld 3 rfl rfl ?_ | refine H.ld 4 rfl rfl ?_ | refine H.ld 5 rfl rfl ?_ | (refine H.st 0 rfl (by simp) fun _ H => ?_; simp only [List.nil_append, List.cons_append, List.set_cons_zero, List.set_cons_succ, Nat.zero_add] at H) | (refine H.st 1 rfl (by simp) fun _ H => ?_; simp only [List.nil_append, List.cons_append, List.set_cons_zero, List.set_cons_succ, Nat.zero_add] at H) | (refine H.st 2 rfl (by simp) fun _ H => ?_; simp only [List.nil_append, List.cons_append, List.set_cons_zero, List.set_cons_succ, Nat.zero_add] at H) | (refine H.st 3 rfl (by simp) fun _ H => ?_; simp only [List.nil_append, List.cons_append, List.set_cons_zero, List.set_cons_succ, Nat.zero_add] at H) | (refine H.st 4 rfl (by simp) fun _ H => ?_; simp only [List.nil_append, List.cons_append, List.set_cons_zero, List.set_cons_succ, Nat.zero_add] at H) | (refine H.st 5 rfl (by simp) fun _ H => ?_; simp only [List.nil_append, List.cons_append, List.set_cons_zero, List.set_cons_succ, Nat.zero_add] at H))
  exact ⟨rfl, H.ext⟩
theorem c_clone0 (w : World) : C81 nilS w fun r w1 => r = nilS ∧ w1 = w := by
  refine T81 _ _ _ ?_
  unfold S81
  exact Br_of (fun _ => ⟨rfl, rfl⟩) fun h => by cases h
/-- An object without keys and kids. -/
def leaf (o : Ob) : Prop := o.2.2.2.2.1 = nilS ∧ o.2.2.2.2.2 = nilS
theorem c_changed0 {o : Ob} (ho : leaf o) (w : World) : C73 o (.func (.func 74) #[] #[]) w fun r w1 => r = o ∧ Ext (fun _ => False) w w1 := by
  refine T73_F74 o _ _ ?_
  unfold S73_F74
  refine (Hn.start w).nw fun w2 H => H.nw fun w3 H => ?_
  simp only [List.nil_append, List.cons_append, List.set_cons_zero, List.set_cons_succ, Nat.zero_add] at H
  iterate 6 refine H.ld 0 rfl rfl ?_
  refine (c_id o _).mono ?_
  rintro r w4 ⟨rfl, he⟩
  have H := H.keep he
  iterate 6 (refine H.st 0 rfl (by simp) fun _ H => ?_; simp only [List.nil_append, List.cons_append, List.set_cons_zero, List.set_cons_succ, Nat.zero_add] at H)
  iterate 1 refine H.ld 0 rfl rfl ?_
  rw [ho.1]
  refine (c_clone0 _).mono ?_
  rintro r2 w5 ⟨rfl, rfl⟩
  iterate 1 (refine H.st 0 rfl (by simp) fun _ H => ?_; simp only [List.nil_append, List.cons_append, List.set_cons_zero, List.set_cons_succ, Nat.zero_add] at H)
  iterate 1 refine H.ld 0 rfl rfl ?_
  rw [ho.2]
  refine Br_of (fun h => by cases h) fun _ => ?_
  iterate 6 refine H.ld 0 rfl rfl ?_
  iterate 6 (refine H.st 1 rfl (by simp) fun _ H => ?_; simp only [List.nil_append, List.cons_append, List.set_cons_zero, List.set_cons_succ, Nat.zero_add] at H)
  iterate 6 refine H.ld 1 rfl rfl ?_
  refine ⟨?_, H.ext⟩
  obtain ⟨a, b, c, d, k1, k2⟩ := r
  obtain ⟨h1, h2⟩ := ho
  cases h1
  cases h2
  rfl
/-- A copy of an object whose kids are leaves. -/
theorem c_changed1 {a b c : Int} {d : ByteArray} {s : Slc} {L : List Ob} {w : World} (hL : OV w s L) (hs : s.p ≠ none) (hl : ∀ o ∈ L, leaf o) (hn : L.length ≤ 1000000) :
    C73 (a, b, c, d, nilS, s) (.func (.func 74) #[] #[]) w fun r w1 => ∃ g, r = (a, b, c, d, nilS, rowS g L.length) ∧ Blk w1 g (L.flatMap obrow).toArray 64 ∧ w.heap.size ≤ g ∧ Ext (fun _ => False) w w1 := by
  refine T73_F74 (a, b, c, d, nilS, s) _ _ ?_
  unfold S73_F74
  refine (Hn.start w).nw fun w2 H => H.nw fun w3 H => ?_
  simp only [List.nil_append, List.cons_append, List.set_cons_zero, List.set_cons_succ, Nat.zero_add] at H
  iterate 6 refine H.ld 0 rfl rfl ?_
  refine (c_id (a, b, c, d, nilS, s) _).mono ?_
  rintro r w4 ⟨rfl, he⟩
  have H := H.keep he
  iterate 6 (refine H.st 0 rfl (by simp) fun _ H => ?_; simp only [List.nil_append, List.cons_append, List.set_cons_zero, List.set_cons_succ, Nat.zero_add] at H)
  iterate 1 refine H.ld 0 rfl rfl ?_
  refine (c_clone0 _).mono ?_
  rintro r2 w5 ⟨rfl, rfl⟩
  iterate 1 (refine H.st 0 rfl (by simp) fun _ H => ?_; simp only [List.nil_append, List.cons_append, List.set_cons_zero, List.set_cons_succ, Nat.zero_add] at H)
  iterate 1 refine H.ld 0 rfl rfl ?_
  refine Br_of (fun hbr => ?_) fun h => absurd (by simpa using h) hs
  iterate 1 refine H.ld 0 rfl rfl ?_
  have hsl : s.len = L.length := hL.1
  rename_i wm
  rw [hsl]
  obtain ⟨w6, hrun, hw6⟩ := elOb.make (zs := obrow ob0) rfl wm L.length (by omega) (by omega)
  refine ⟨_, w6, hrun, ?_⟩
  have e6 : Ext (fun _ => False) wm w6 := by rw [hw6]; exact (Ext.refl _ _).alloc _
  have hnb : wm.heap.size ∉ [w.heap.size, w2.heap.size] := by
    have h1 := H.lt 0 rfl
    have h2 := H.lt 1 rfl
    simp
    omega
  have hsz := H.size
  have H := (H.keep e6).push (b := wm.heap.size) (cs := (List.replicate L.length (obrow ob0)).flatten) (t := 64) (by rw [hw6]; exact Blk.new _ _ _) hsz hnb
  simp only [List.nil_append, List.cons_append, List.set_cons_zero, List.set_cons_succ, Nat.zero_add] at H
  iterate 1 refine H.ld 0 rfl rfl ?_
  refine ⟨fun n st w7 => ∃ i : Nat, st = (i : Int) ∧ i ≤ L.length ∧ n = L.length - i ∧ Hn w w7 [(w.heap.size, obrow (a, b, c, d, nilS, s), 64), (w2.heap.size, obrow ob0, 64), (wm.heap.size, (L.take i).flatMap obrow ++ (List.replicate (L.length - i) (obrow ob0)).flatten, 64)],
    L.length, ⟨0, rfl, by omega, rfl, by rw [List.take_zero, List.flatMap_nil, List.nil_append, Nat.sub_zero]; exact H⟩, ?_⟩
  rintro n st w7 ⟨i, rfl, hi, rfl, H⟩
  unfold S73_F74L1
  rw [hsl]
  refine Br.dec (fun e => ⟨by omega, by omega, ?_⟩) fun e => ?_
  · have hlt : i < L.length := by omega
    have hLi : L[i]? = some L[i] := List.getElem?_eq_getElem hlt
    obtain ⟨p, hp, k0, k1, k2, k3, k4, k5⟩ := (hL.keep H.ext).get hLi
    rw [hp, Int.toNat_natCast]
    refine Nn.of (Ld.mk k0 (Ld.mk k1 (Ld.mk k2 (Ld.mk k3 (Ld.mk k4 (Ld.mk k5 ?_))))))
    refine H.nw fun w8 H => ?_
    simp only [List.cons_append, List.nil_append] at H
    iterate 6 (refine H.st 3 rfl (by simp) fun _ H => ?_; simp only [List.nil_append, List.cons_append, List.set_cons_zero, List.set_cons_succ, Nat.zero_add] at H)
    iterate 6 refine H.ld 3 rfl rfl ?_
    have hleaf := hl L[i] (List.getElem_mem hlt)
    refine (c_changed0 hleaf _).mono ?_
    rintro r w9 ⟨rfl, he⟩
    have H := (H.keep he).left (L := [_, _, _]) (M := [_])
    refine ⟨by omega, by omega, Nn.of ?_⟩
    simp only [add_lit, Nat.zero_add]
    have hpre : ((L.take i).flatMap obrow).length = i * 6 := by rw [obs_len, List.length_take]; omega
    have hrep : (List.replicate (L.length - i) (obrow ob0)).flatten = obrow ob0 ++ (List.replicate (L.length - (i + 1)) (obrow ob0)).flatten := by
      rw [show L.length - i = (L.length - (i + 1)) + 1 by omega, List.replicate_succ, List.flatten_cons]
    rw [hrep] at H
    have key := H.stL (i := 2) (K := fun w10 => ∃ n', n' < L.length - i ∧ ∃ i' : Nat, IntKind.i64.wrap ((i : Int) + 1) = (i' : Int) ∧ i' ≤ L.length ∧ n' = L.length - i' ∧ Hn w w10 [(w.heap.size, obrow (a, b, c, d, nilS, s), 64), (w2.heap.size, obrow ob0, 64), (wm.heap.size, (L.take i').flatMap obrow ++ (List.replicate (L.length - i') (obrow ob0)).flatten, 64)])
      (obrow L[i]) (obrow ob0) _ _ (i * 6) w9 rfl hpre rfl fun w10 H => ⟨L.length - (i + 1), by omega, i + 1, by rw [i64_id (by omega)]; rfl, by omega, rfl, by
        rw [List.take_add_one, hLi, List.flatMap_append]
        simpa using H⟩
    simpa only [StL, obrow] using key
  · have hi2 : i = L.length := by omega
    subst hi2
    rw [List.take_length, Nat.sub_self, List.replicate_zero, List.flatten_nil, List.append_nil] at H
    generalize hM : L.flatMap obrow = M at H
    simp only [obrow, ob0] at H
    iterate 1 (refine H.st 0 rfl (by simp) fun _ H => ?_; simp only [List.nil_append, List.cons_append, List.set_cons_zero, List.set_cons_succ, Nat.zero_add] at H)
    iterate 6 refine H.ld 0 rfl rfl ?_
    iterate 6 (refine H.st 1 rfl (by simp) fun _ H => ?_; simp only [List.nil_append, List.cons_append, List.set_cons_zero, List.set_cons_succ, Nat.zero_add] at H)
    iterate 6 refine H.ld 1 rfl rfl ?_
    have hb := H.get 2 rfl
    subst hM
    exact ⟨_, rfl, hb, H.ge 2 rfl, H.ext⟩
end Mat
end Go.Proofs.YtdchpkbpnfoknaaDoor

/- The formulas of 8 functions of the program, written by program (gen.py); the kernel checks each. No condition. -/
namespace Go.Proofs.YtdchpkbpnfoknaaDoor
open Sh
set_option linter.unusedVariables false
set_option maxRecDepth 100000

def C61 (s1 : Slc) (v2 : ByteArray) (w : World) (R : Int → World → Prop) : Prop :=
  Calls Tryd.prog 61 #[Slc.v s1, .string v2] w fun e w' => ∃ r0 : Int, e = .returned (.int .i64 r0) ∧ R r0 w'
theorem C61.mono {s1 : Slc} {v2 : ByteArray} {w : World} {R R' : Int → World → Prop} (h : C61 s1 v2 w R) (hr : ∀ r0 w', R r0 w' → R' r0 w') : C61 s1 v2 w R' :=
  Calls.mono h fun _ _ ⟨r0, he, hR⟩ => ⟨r0, he, hr _ _ hR⟩
def C43 (s1 : Slc) (v2 : ByteArray) (w : World) (R : Bool → World → Prop) : Prop :=
  Calls Tryd.prog 43 #[Slc.v s1, .string v2] w fun e w' => ∃ r0 : Bool, e = .returned (.bool r0) ∧ R r0 w'
theorem C43.mono {s1 : Slc} {v2 : ByteArray} {w : World} {R R' : Bool → World → Prop} (h : C43 s1 v2 w R) (hr : ∀ r0 w', R r0 w' → R' r0 w') : C43 s1 v2 w R' :=
  Calls.mono h fun _ _ ⟨r0, he, hR⟩ => ⟨r0, he, hr _ _ hR⟩
def C76 (r1 : Int) (w : World) (R : Bool → World → Prop) : Prop :=
  Calls Tryd.prog 76 #[.int .i32 r1] w fun e w' => ∃ r0 : Bool, e = .returned (.bool r0) ∧ R r0 w'
theorem C76.mono {r1 : Int} {w : World} {R R' : Bool → World → Prop} (h : C76 r1 w R) (hr : ∀ r0 w', R r0 w' → R' r0 w') : C76 r1 w R' :=
  Calls.mono h fun _ _ ⟨r0, he, hR⟩ => ⟨r0, he, hr _ _ hR⟩
def C75 (s1 : ByteArray) (f2 : Value) (w : World) (R : Slc → World → Prop) : Prop :=
  Calls Tryd.prog 75 #[.string s1, f2] w fun e w' => ∃ r0 : Slc, e = .returned (Slc.v r0) ∧ R r0 w'
theorem C75.mono {s1 : ByteArray} {f2 : Value} {w : World} {R R' : Slc → World → Prop} (h : C75 s1 f2 w R) (hr : ∀ r0 w', R r0 w' → R' r0 w') : C75 s1 f2 w R' :=
  Calls.mono h fun _ _ ⟨r0, he, hR⟩ => ⟨r0, he, hr _ _ hR⟩
def C62 (s1 : ByteArray) (w : World) (R : Slc → World → Prop) : Prop :=
  Calls Tryd.prog 62 #[.string s1] w fun e w' => ∃ r0 : Slc, e = .returned (Slc.v r0) ∧ R r0 w'
theorem C62.mono {s1 : ByteArray} {w : World} {R R' : Slc → World → Prop} (h : C62 s1 w R) (hr : ∀ r0 w', R r0 w' → R' r0 w') : C62 s1 w R' :=
  Calls.mono h fun _ _ ⟨r0, he, hR⟩ => ⟨r0, he, hr _ _ hR⟩
def C44 (name1 : ByteArray) (w : World) (R : ByteArray → World → Prop) : Prop :=
  Calls Tryd.prog 44 #[.string name1] w fun e w' => ∃ r0 : ByteArray, e = .returned (.string r0) ∧ R r0 w'
theorem C44.mono {name1 : ByteArray} {w : World} {R R' : ByteArray → World → Prop} (h : C44 name1 w R) (hr : ∀ r0 w', R r0 w' → R' r0 w') : C44 name1 w R' :=
  Calls.mono h fun _ _ ⟨r0, he, hR⟩ => ⟨r0, he, hr _ _ hR⟩
def C45 (letter1 : Int) (kind2 : Int) (w : World) (R : Bool → World → Prop) : Prop :=
  Calls Tryd.prog 45 #[.int .i32 letter1, .int .i64 kind2] w fun e w' => ∃ r0 : Bool, e = .returned (.bool r0) ∧ R r0 w'
theorem C45.mono {letter1 : Int} {kind2 : Int} {w : World} {R R' : Bool → World → Prop} (h : C45 letter1 kind2 w R) (hr : ∀ r0 w', R r0 w' → R' r0 w') : C45 letter1 kind2 w R' :=
  Calls.mono h fun _ _ ⟨r0, he, hR⟩ => ⟨r0, he, hr _ _ hR⟩
def C23 (o1 : ByteArray × Slc × ByteArray) (w : World) (R : Int → World → Prop) : Prop :=
  Calls Tryd.prog 23 #[.agg #[.string o1.1, Slc.v o1.2.1, .string o1.2.2]] w fun e w' => ∃ r0 : Int, e = .returned (.int .i64 r0) ∧ R r0 w'
theorem C23.mono {o1 : ByteArray × Slc × ByteArray} {w : World} {R R' : Int → World → Prop} (h : C23 o1 w R) (hr : ∀ r0 w', R r0 w' → R' r0 w') : C23 o1 w R' :=
  Calls.mono h fun _ _ ⟨r0, he, hR⟩ => ⟨r0, he, hr _ _ hR⟩

def S61L1 (s1 : Slc) (v2 : ByteArray) (R : Int → World → Prop) (I5 : Int → World → Prop) (s3 : Int) (vw4 : World) : Prop :=
  Br (decide (s3 < ((s1.len : Nat) : Int))) (0 ≤ s3 ∧ s3 < (s1.len : Nat) ∧ Nn s1.p fun a6 =>
    Ld vw4 (a6.add ((s3).toNat * 1)) Value.string fun (x7 : ByteArray) =>
    Br (v2.toList == x7.toList) (R s3 vw4) (I5 (IntKind.i64.wrap (s3 + 1)) vw4)) (R (-1) vw4)
/-- slices.Index[[]string,string] -/
def S61 (s1 : Slc) (v2 : ByteArray) (w : World) (R : Int → World → Prop) : Prop :=
  Lp (σ := Int) (S61L1 s1 v2 R) 0 w
def pl61 : Plan := (.seq (.reg .seq) (.seq (.seq (.reg .seq) (.block (.loop [(8, (.one (.int .i64)))] [0, 1, 7] (.seq (.reg .seq) (.seq (.cond .leaf .leaf) (.seq (.block (.seq (.reg .seq) (.seq (.reg .seq) (.cond (.seq (.reg .seq) .leaf) .leaf)))) (.reg .seq))))))) (.seq (.reg .seq) .leaf)))
set_option maxRecDepth 100000 in
theorem T61 (s1 : Slc) (v2 : ByteArray) (w : World) (R : Int → World → Prop) (h : S61 s1 v2 w R) : C61 s1 v2 w R := by
  have e : fnT Tryd.prog ⟨FF, MAY, (fun _ _ => False)⟩ pl61 Tryd.f61 [Slc.v s1, .string v2] w [(.one (.int .i64))] (fun s w => R s w) = S61 s1 v2 w R := by kernel_rfl
  exact (fn_calls okF okM Tryd.func61 (by kernel_rfl) (by kernel_rfl) (e.mpr h)).mono fun _ _ ⟨s, he, hR⟩ => ⟨s, he, hR⟩

/-- slices.Contains[[]string,string] -/
def S43 (s1 : Slc) (v2 : ByteArray) (w : World) (R : Bool → World → Prop) : Prop :=
  C61 s1 v2 w fun r3 vw4 =>
    R (decide (r3 ≥ 0)) vw4
def pl43 : Plan := (.seq (.reg .seq) (.seq (.reg .seq) .leaf))
set_option maxRecDepth 100000 in
theorem T43 (s1 : Slc) (v2 : ByteArray) (w : World) (R : Bool → World → Prop) (h : S43 s1 v2 w R) : C43 s1 v2 w R := by
  have e : fnT Tryd.prog ⟨FF, MAY, (fun _ _ => False)⟩ pl43 Tryd.f43 [Slc.v s1, .string v2] w [(.one .bool)] (fun s w => R s w) = S43 s1 v2 w R := by kernel_rfl
  exact (fn_calls okF okM Tryd.func43 (by kernel_rfl) (by kernel_rfl) (e.mpr h)).mono fun _ _ ⟨s, he, hR⟩ => ⟨s, he, hR⟩



def S75_F76L1 (s1 : ByteArray) (s32 : Slc) (x34 : Slc) (R : Slc → World → Prop) (I38 : Int → World → Prop) (s36 : Int) (vw37 : World) : Prop :=
  Br (decide (s36 < ((s32.len : Nat) : Int))) (0 ≤ s36 ∧ s36 < (s32.len : Nat) ∧ Nn s32.p fun a39 =>
    Ld vw37 (a39.add ((s36).toNat * 2)) (Value.int .i64) fun (x40 : Int) =>
    Ld vw37 ((a39.add ((s36).toNat * 2)).add 1) (Value.int .i64) fun (x41 : Int) =>
    Nw vw37 (.cells #[.int .i64 0, .int .i64 0] 150) fun vw42 =>
    St vw42 (⟨vw37.heap.size, 0, none⟩ : Addr) (.int .i64 x40) fun vw43 =>
    St vw43 ((⟨vw37.heap.size, 0, none⟩ : Addr).add 1) (.int .i64 x41) fun vw44 =>
    Ld vw44 (⟨vw37.heap.size, 0, none⟩ : Addr) (Value.int .i64) fun (x45 : Int) =>
    Ld vw44 ((⟨vw37.heap.size, 0, none⟩ : Addr).add 1) (Value.int .i64) fun (x46 : Int) =>
    0 ≤ x46 ∧ x46 ≤ (((s1).size : Nat) : Int) ∧ 0 ≤ x45 ∧ x45 ≤ (((x46).toNat : Nat) : Int) ∧ 0 ≤ s36 ∧ s36 < (x34.len : Nat) ∧ Nn x34.p fun a47 =>
    St vw44 (a47.add ((s36).toNat * 1)) (.string (s1.extract ((x45).toNat) ((x46).toNat))) fun vw48 =>
    I38 (IntKind.i64.wrap (s36 + 1)) vw48) (R x34 vw37)
def S75_F76J1 (s1 : ByteArray) (R : Slc → World → Prop) (s32 : Slc) (vw33 : World) : Prop :=
  Rn Tryd.prog (Instr.makeSlice 62 (.int .i64 ((s32.len : Nat) : Int)) (.int .i64 ((s32.len : Nat) : Int))) vw33 Slc.v fun (x34 : Slc) vw35 =>
  Lp (σ := Int) (S75_F76L1 s1 s32 x34 R) 0 vw35
def S75_F76L2 (s1 : ByteArray) (vw4 : World) (R : Slc → World → Prop) (I20 : (Slc × Int) → World → Prop) (s18 : Slc × Int) (vw19 : World) : Prop :=
  Nx vw19 (⟨vw4.heap.size, 0, none⟩ : Addr) (fun (i21 : Int) (ch22 : Int) (vw23 : World) =>
    C76 ch22 vw23 fun r24 vw25 =>
      Br r24 (Br (decide (s18.2 ≥ 0)) (Nw vw25 (.cells #[.int .i64 (s18.2), .int .i64 i21] 150) fun vw26 =>
          Rn Tryd.prog (Builtin.append_ #[148, 148] 148 #[Slc.v s18.1, Slc.v ((⟨some ⟨vw25.heap.size, 0, none⟩, 1, 1⟩ : Slc))]) vw26 Slc.v fun (x27 : Slc) vw28 =>
          I20 (x27, ixor .i64 (-1) s18.2) vw28) (I20 (s18.1, s18.2) vw25)) (Br (decide (s18.2 < 0)) (I20 (s18.1, i21) vw25) (I20 (s18.1, s18.2) vw25))) (Join (S75_F76J1 s1 R) fun (vJ49 : Slc → World → Prop) =>
      Br (decide (s18.2 ≥ 0)) (Nw vw19 (.cells #[.int .i64 (s18.2), .int .i64 (((s1).size : Nat) : Int)] 150) fun vw50 =>
        Rn Tryd.prog (Builtin.append_ #[148, 148] 148 #[Slc.v s18.1, Slc.v ((⟨some ⟨vw19.heap.size, 0, none⟩, 1, 1⟩ : Slc))]) vw50 Slc.v fun (x51 : Slc) vw52 =>
        vJ49 x51 vw52) (vJ49 s18.1 vw19))
/-- strings.FieldsFunc -/
def S75_F76 (s1 : ByteArray) (w : World) (R : Slc → World → Prop) : Prop :=
  Rn Tryd.prog (Instr.makeSlice 148 (.int .i64 0) (.int .i64 32)) w Slc.v fun (x3 : Slc) vw4 =>
  Nw vw4 (.stringIter s1 0) fun vw17 =>
  Lp (σ := Slc × Int) (S75_F76L2 s1 vw4 R) (x3, (-1)) vw17
def pl75_F76 : Plan := (.seq (.reg .seq) (.seq (.reg .seq) (.seq (.reg .seq) (.seq (.seq (.reg .seq) (.block (.loop [(5, (.one .slc)), (6, (.one (.int .i64)))] [0, 1, 14] (.seq (.reg .seq) (.seq (.cond .leaf .leaf) (.block (.seq (.reg .seq) (.seq (.reg .seq) (.cond (.seq (.reg .seq) (.cond (.seq (.reg .seq) (.reg .seq)) .leaf)) (.seq (.reg .seq) (.cond (.reg .seq) .leaf))))))))))) (.join [(5, (.one .slc))] [0] (.seq (.reg .seq) (.cond (.reg .seq) .leaf)) (.seq (.reg .seq) (.seq (.seq (.reg .seq) (.block (.loop [(49, (.one (.int .i64)))] [0, 9, 47, 48] (.seq (.reg .seq) (.seq (.cond .leaf .leaf) (.seq (.block (.seq (.reg .seq) (.reg .seq))) (.reg .seq))))))) (.seq (.reg .seq) .leaf))))))))
set_option maxRecDepth 100000 in
theorem T75_F76 (s1 : ByteArray) (w : World) (R : Slc → World → Prop) (h : S75_F76 s1 w R) : C75 s1 (.func (.func 76) #[] #[]) w R := by
  have e : fnT Tryd.prog ⟨FF, MAY, (fun _ _ => False)⟩ pl75_F76 Tryd.f75 [.string s1, .func (.func 76) #[] #[]] w [(.one .slc)] (fun s w => R s w) = S75_F76 s1 w R := by kernel_rfl
  exact (fn_calls okF okM Tryd.func75 (by kernel_rfl) (by kernel_rfl) (e.mpr h)).mono fun _ _ ⟨s, he, hR⟩ => ⟨s, he, hR⟩

def S62L1 (s1 : ByteArray) (s33 : Int × Int × Int) (I35 : (Int × Int × Int) → World → Prop) (I41 : Int → World → Prop) (s39 : Int) (vw40 : World) : Prop :=
  Br (decide (s39 < (((s1).size : Nat) : Int))) (0 ≤ s39 ∧ s39 < ((s1).size : Nat) ∧ 0 ≤ (bAt s1 s39) ∧ (bAt s1 s39) < (256 : Nat) ∧ Ld vw40 ((⟨1, 0, none⟩ : Addr).add ((bAt s1 s39).toNat * 1)) (Value.int .u8) fun (x42 : Int) =>
    Br (x42 != 0) (I41 (IntKind.i64.wrap (s39 + 1)) vw40) (I35 (IntKind.i64.wrap (s33.1 + 1), s39, s39) vw40)) (I35 (IntKind.i64.wrap (s33.1 + 1), s39, s39) vw40)
def S62L2 (s1 : ByteArray) (x14 : Slc) (R : Slc → World → Prop) (I35 : (Int × Int × Int) → World → Prop) (s33 : Int × Int × Int) (vw34 : World) : Prop :=
  Br (decide (s33.2.2 < (((s1).size : Nat) : Int))) (0 ≤ s33.2.2 ∧ s33.2.2 < ((s1).size : Nat) ∧ 0 ≤ (bAt s1 s33.2.2) ∧ (bAt s1 s33.2.2) < (256 : Nat) ∧ Ld vw34 ((⟨1, 0, none⟩ : Addr).add ((bAt s1 s33.2.2).toNat * 1)) (Value.int .u8) fun (x36 : Int) =>
    Br (x36 == 0) (I35 (s33.1, s33.2.1, IntKind.i64.wrap (s33.2.2 + 1)) vw34) (0 ≤ s33.2.2 ∧ s33.2.2 ≤ (((s1).size : Nat) : Int) ∧ 0 ≤ s33.2.1 ∧ s33.2.1 ≤ (((s33.2.2).toNat : Nat) : Int) ∧ 0 ≤ s33.1 ∧ s33.1 < (x14.len : Nat) ∧ Nn x14.p fun a37 =>
      St vw34 (a37.add ((s33.1).toNat * 1)) (.string (s1.extract ((s33.2.1).toNat) ((s33.2.2).toNat))) fun vw38 =>
      Lp (σ := Int) (S62L1 s1 s33 I35) (IntKind.i64.wrap (s33.2.2 + 1)) vw38)) (Br (decide (s33.2.1 < (((s1).size : Nat) : Int))) (0 ≤ s33.2.1 ∧ s33.2.1 ≤ (((s1).size : Nat) : Int) ∧ 0 ≤ s33.1 ∧ s33.1 < (x14.len : Nat) ∧ Nn x14.p fun a43 =>
      St vw34 (a43.add ((s33.1).toNat * 1)) (.string (s1.extract ((s33.2.1).toNat) ((s1).size))) fun vw44 =>
      R x14 vw44) (R x14 vw34))
def S62J1 (s1 : ByteArray) (x14 : Slc) (R : Slc → World → Prop) (s20 : Int) (vw21 : World) : Prop :=
  Lp (σ := Int × Int × Int) (S62L2 s1 x14 R) (0, s20, s20) vw21
def S62L3 (s1 : ByteArray) (vJ45 : Int → World → Prop) (I48 : Int → World → Prop) (s46 : Int) (vw47 : World) : Prop :=
  Br (decide (s46 < (((s1).size : Nat) : Int))) (0 ≤ s46 ∧ s46 < ((s1).size : Nat) ∧ 0 ≤ (bAt s1 s46) ∧ (bAt s1 s46) < (256 : Nat) ∧ Ld vw47 ((⟨1, 0, none⟩ : Addr).add ((bAt s1 s46).toNat * 1)) (Value.int .u8) fun (x49 : Int) =>
    Br (x49 != 0) (I48 (IntKind.i64.wrap (s46 + 1)) vw47) (vJ45 s46 vw47)) (vJ45 s46 vw47)
def S62L4 (s1 : ByteArray) (R : Slc → World → Prop) (I8 : (Int × Int × Int × Int) → World → Prop) (s6 : Int × Int × Int × Int) (vw7 : World) : Prop :=
  Br (decide (s6.2.2.2 < (((s1).size : Nat) : Int))) (0 ≤ s6.2.2.2 ∧ s6.2.2.2 < ((s1).size : Nat) ∧ 0 ≤ (bAt s1 s6.2.2.2) ∧ (bAt s1 s6.2.2.2) < (256 : Nat) ∧ Ld vw7 ((⟨1, 0, none⟩ : Addr).add ((bAt s1 s6.2.2.2).toNat * 1)) (Value.int .u8) fun (x9 : Int) =>
    I8 (IntKind.i64.wrap (s6.1 + (iand .i64 s6.2.1 (ixor .i64 (-1) (IntKind.i64.wrap x9)))), IntKind.i64.wrap x9, ior .u8 s6.2.2.1 (bAt s1 s6.2.2.2), IntKind.i64.wrap (s6.2.2.2 + 1)) vw7) (Br (decide (s6.2.2.1 ≥ 128)) (C75 s1 (.func (.func 76) #[] #[]) vw7 fun r12 vw13 =>
        R r12 vw13) (Rn Tryd.prog (Instr.makeSlice 62 (.int .i64 (s6.1)) (.int .i64 (s6.1))) vw7 Slc.v fun (x14 : Slc) vw15 =>
      Join (S62J1 s1 x14 R) fun (vJ45 : Int → World → Prop) =>
        Lp (σ := Int) (S62L3 s1 vJ45) 0 vw15))
/-- strings.Fields -/
def S62 (s1 : ByteArray) (w : World) (R : Slc → World → Prop) : Prop :=
  Lp (σ := Int × Int × Int × Int) (S62L4 s1 R) (0, 1, 0, 0) w
def pl62 : Plan := (.seq (.reg .seq) (.seq (.reg .seq) (.seq (.reg .seq) (.seq (.reg .seq) (.seq (.seq (.reg .seq) (.block (.loop [(3, (.one (.int .i64))), (4, (.one (.int .i64))), (5, (.one (.int .u8))), (6, (.one (.int .i64)))] [0] (.seq (.seq (.reg .seq) (.cond .leaf .leaf)) (.seq (.block (.seq (.reg .seq) (.seq (.reg .seq) (.seq (.reg .seq) (.seq (.reg .seq) (.reg .seq)))))) (.reg .seq)))))) (.seq (.seq (.reg .seq) (.cond (.seq (.reg .seq) .leaf) .leaf)) (.seq (.reg .seq) (.seq (.reg .seq) (.seq (.reg .seq) (.seq (.reg .seq) (.join [(12, (.one (.int .i64)))] [0, 9, 10] (.block (.loop [(12, (.one (.int .i64)))] [0, 9, 10] (.seq (.seq (.reg .seq) (.cond .leaf .leaf)) (.block (.reg .seq))))) (.seq (.reg .seq) (.seq (.block (.loop [(10, (.one (.int .i64))), (11, (.one (.int .i64))), (12, (.one (.int .i64)))] [0, 9] (.seq (.seq (.reg .seq) (.cond .leaf .leaf)) (.block (.seq (.seq (.reg .seq) (.cond (.seq (.reg .seq) .leaf) .leaf)) (.seq (.reg .seq) (.seq (.reg .seq) (.seq (.reg .seq) (.seq (.block (.loop [(12, (.one (.int .i64)))] [0, 9, 10] (.seq (.seq (.reg .seq) (.cond .leaf .leaf)) (.block (.reg .seq))))) (.reg .seq)))))))))) (.seq (.seq (.reg .seq) (.cond (.reg .seq) .leaf)) (.seq (.reg .seq) .leaf)))))))))))))))
set_option maxRecDepth 100000 in
theorem T62 (s1 : ByteArray) (w : World) (R : Slc → World → Prop) (h : S62 s1 w R) : C62 s1 w R := by
  have e : fnT Tryd.prog ⟨FF, MAY, (fun _ _ => False)⟩ pl62 Tryd.f62 [.string s1] w [(.one .slc)] (fun s w => R s w) = S62 s1 w R := by kernel_rfl
  exact (fn_calls okF okM Tryd.func62 (by kernel_rfl) (by kernel_rfl) (e.mpr h)).mono fun _ _ ⟨s, he, hR⟩ => ⟨s, he, hR⟩

def S44L1 (name1 : ByteArray) (x31 : ByteArray) (x32 : ByteArray) (x33 : ByteArray) (x34 : ByteArray) (x35 : ByteArray) (x36 : ByteArray) (x37 : ByteArray) (x38 : ByteArray) (x39 : ByteArray) (x40 : ByteArray) (x41 : ByteArray) (x42 : ByteArray) (x43 : ByteArray) (x44 : ByteArray) (x45 : ByteArray) (x46 : ByteArray) (x47 : ByteArray) (x48 : ByteArray) (x49 : ByteArray) (x50 : ByteArray) (x51 : ByteArray) (x52 : ByteArray) (x53 : ByteArray) (x54 : ByteArray) (x55 : ByteArray) (x56 : ByteArray) (x57 : ByteArray) (x58 : ByteArray) (R : ByteArray → World → Prop) (I61 : Int → World → Prop) (s59 : Int) (vw60 : World) : Prop :=
  Br (decide (s59 < 14)) (0 ≤ s59 ∧ s59 < (14 : Nat) ∧ ∃ x62 : ByteArray × ByteArray, (#[.string x31, .string x32, .string x33, .string x34, .string x35, .string x36, .string x37, .string x38, .string x39, .string x40, .string x41, .string x42, .string x43, .string x44, .string x45, .string x46, .string x47, .string x48, .string x49, .string x50, .string x51, .string x52, .string x53, .string x54, .string x55, .string x56, .string x57, .string x58] : Array Value).extract ((s59).toNat * 2) ((s59).toNat * 2 + 2) = #[.string x62.1, .string x62.2] ∧ Nw vw60 (.cells #[.string ((⟨#[]⟩ : ByteArray)), .string ((⟨#[]⟩ : ByteArray))] 125) fun vw63 =>
    St vw63 (⟨vw60.heap.size, 0, none⟩ : Addr) (.string x62.1) fun vw64 =>
    St vw64 ((⟨vw60.heap.size, 0, none⟩ : Addr).add 1) (.string x62.2) fun vw65 =>
    Ld vw65 ((⟨vw60.heap.size, 0, none⟩ : Addr).add 1) Value.string fun (x66 : ByteArray) =>
    C62 x66 vw65 fun r67 vw68 =>
      C43 r67 name1 vw68 fun r69 vw70 =>
        Br r69 (Ld vw70 (⟨vw60.heap.size, 0, none⟩ : Addr) Value.string fun (x71 : ByteArray) =>
          R x71 vw70) (I61 (IntKind.i64.wrap (s59 + 1)) vw70)) (R (⟨#[63]⟩ : ByteArray) vw60)
/-- foliant/ops.Takes -/
def S44 (name1 : ByteArray) (w : World) (R : ByteArray → World → Prop) : Prop :=
  Nw w (.cells #[.string ((⟨#[]⟩ : ByteArray)), .string ((⟨#[]⟩ : ByteArray)), .string ((⟨#[]⟩ : ByteArray)), .string ((⟨#[]⟩ : ByteArray)), .string ((⟨#[]⟩ : ByteArray)), .string ((⟨#[]⟩ : ByteArray)), .string ((⟨#[]⟩ : ByteArray)), .string ((⟨#[]⟩ : ByteArray)), .string ((⟨#[]⟩ : ByteArray)), .string ((⟨#[]⟩ : ByteArray)), .string ((⟨#[]⟩ : ByteArray)), .string ((⟨#[]⟩ : ByteArray)), .string ((⟨#[]⟩ : ByteArray)), .string ((⟨#[]⟩ : ByteArray)), .string ((⟨#[]⟩ : ByteArray)), .string ((⟨#[]⟩ : ByteArray)), .string ((⟨#[]⟩ : ByteArray)), .string ((⟨#[]⟩ : ByteArray)), .string ((⟨#[]⟩ : ByteArray)), .string ((⟨#[]⟩ : ByteArray)), .string ((⟨#[]⟩ : ByteArray)), .string ((⟨#[]⟩ : ByteArray)), .string ((⟨#[]⟩ : ByteArray)), .string ((⟨#[]⟩ : ByteArray)), .string ((⟨#[]⟩ : ByteArray)), .string ((⟨#[]⟩ : ByteArray)), .string ((⟨#[]⟩ : ByteArray)), .string ((⟨#[]⟩ : ByteArray))] 126) fun vw2 =>
  St vw2 (⟨w.heap.size, 0, none⟩ : Addr) (.string ((⟨#[]⟩ : ByteArray))) fun vw3 =>
  St vw3 ((⟨w.heap.size, 0, none⟩ : Addr).add 1) (.string ((⟨#[98, 32, 66, 32, 98, 42, 32, 66, 42, 32, 66, 84, 32, 69, 84, 32, 69, 77, 67, 32, 66, 88, 32, 69, 88, 32, 102, 32, 70, 32, 102, 42, 32, 104, 32, 110, 32, 113, 32, 81, 32, 115, 32, 83, 32, 84, 42, 32, 87, 32, 87, 42]⟩ : ByteArray))) fun vw4 =>
  St vw4 ((⟨w.heap.size, 0, none⟩ : Addr).add 2) (.string ((⟨#[110]⟩ : ByteArray))) fun vw5 =>
  St vw5 ((⟨w.heap.size, 0, none⟩ : Addr).add 3) (.string ((⟨#[103, 32, 71, 32, 105, 32, 106, 32, 74, 32, 77, 32, 119, 32, 84, 99, 32, 84, 76, 32, 84, 114, 32, 84, 115, 32, 84, 119, 32, 84, 122]⟩ : ByteArray))) fun vw6 =>
  St vw6 ((⟨w.heap.size, 0, none⟩ : Addr).add 4) (.string ((⟨#[110, 110]⟩ : ByteArray))) fun vw7 =>
  St vw7 ((⟨w.heap.size, 0, none⟩ : Addr).add 5) (.string ((⟨#[100, 48, 32, 108, 32, 109, 32, 84, 100, 32, 84, 68]⟩ : ByteArray))) fun vw8 =>
  St vw8 ((⟨w.heap.size, 0, none⟩ : Addr).add 6) (.string ((⟨#[110, 110, 110]⟩ : ByteArray))) fun vw9 =>
  St vw9 ((⟨w.heap.size, 0, none⟩ : Addr).add 7) (.string ((⟨#[114, 103, 32, 82, 71]⟩ : ByteArray))) fun vw10 =>
  St vw10 ((⟨w.heap.size, 0, none⟩ : Addr).add 8) (.string ((⟨#[110, 110, 110, 110]⟩ : ByteArray))) fun vw11 =>
  St vw11 ((⟨w.heap.size, 0, none⟩ : Addr).add 9) (.string ((⟨#[107, 32, 75, 32, 114, 101, 32, 118, 32, 121]⟩ : ByteArray))) fun vw12 =>
  St vw12 ((⟨w.heap.size, 0, none⟩ : Addr).add 10) (.string ((⟨#[110, 110, 110, 110, 110, 110]⟩ : ByteArray))) fun vw13 =>
  St vw13 ((⟨w.heap.size, 0, none⟩ : Addr).add 11) (.string ((⟨#[99, 32, 99, 109, 32, 100, 49, 32, 84, 109]⟩ : ByteArray))) fun vw14 =>
  St vw14 ((⟨w.heap.size, 0, none⟩ : Addr).add 12) (.string ((⟨#[78]⟩ : ByteArray))) fun vw15 =>
  St vw15 ((⟨w.heap.size, 0, none⟩ : Addr).add 13) (.string ((⟨#[66, 77, 67, 32, 99, 115, 32, 67, 83, 32, 68, 111, 32, 103, 115, 32, 77, 80, 32, 114, 105, 32, 115, 104]⟩ : ByteArray))) fun vw16 =>
  St vw16 ((⟨w.heap.size, 0, none⟩ : Addr).add 14) (.string ((⟨#[78, 110]⟩ : ByteArray))) fun vw17 =>
  St vw17 ((⟨w.heap.size, 0, none⟩ : Addr).add 15) (.string ((⟨#[84, 102]⟩ : ByteArray))) fun vw18 =>
  St vw18 ((⟨w.heap.size, 0, none⟩ : Addr).add 16) (.string ((⟨#[78, 42]⟩ : ByteArray))) fun vw19 =>
  St vw19 ((⟨w.heap.size, 0, none⟩ : Addr).add 17) (.string ((⟨#[66, 68, 67, 32, 68, 80]⟩ : ByteArray))) fun vw20 =>
  St vw20 ((⟨w.heap.size, 0, none⟩ : Addr).add 18) (.string ((⟨#[115]⟩ : ByteArray))) fun vw21 =>
  St vw21 ((⟨w.heap.size, 0, none⟩ : Addr).add 19) (.string ((⟨#[84, 106, 32, 39]⟩ : ByteArray))) fun vw22 =>
  St vw22 ((⟨w.heap.size, 0, none⟩ : Addr).add 20) (.string ((⟨#[110, 110, 115]⟩ : ByteArray))) fun vw23 =>
  St vw23 ((⟨w.heap.size, 0, none⟩ : Addr).add 21) (.string ((⟨#[34]⟩ : ByteArray))) fun vw24 =>
  St vw24 ((⟨w.heap.size, 0, none⟩ : Addr).add 22) (.string ((⟨#[97]⟩ : ByteArray))) fun vw25 =>
  St vw25 ((⟨w.heap.size, 0, none⟩ : Addr).add 23) (.string ((⟨#[84, 74]⟩ : ByteArray))) fun vw26 =>
  St vw26 ((⟨w.heap.size, 0, none⟩ : Addr).add 24) (.string ((⟨#[97, 110]⟩ : ByteArray))) fun vw27 =>
  St vw27 ((⟨w.heap.size, 0, none⟩ : Addr).add 25) (.string ((⟨#[100]⟩ : ByteArray))) fun vw28 =>
  St vw28 ((⟨w.heap.size, 0, none⟩ : Addr).add 26) (.string ((⟨#[100]⟩ : ByteArray))) fun vw29 =>
  St vw29 ((⟨w.heap.size, 0, none⟩ : Addr).add 27) (.string ((⟨#[66, 73]⟩ : ByteArray))) fun vw30 =>
  Ld vw30 (⟨w.heap.size, 0, none⟩ : Addr) Value.string fun (x31 : ByteArray) =>
  Ld vw30 ((⟨w.heap.size, 0, none⟩ : Addr).add 1) Value.string fun (x32 : ByteArray) =>
  Ld vw30 ((⟨w.heap.size, 0, none⟩ : Addr).add 2) Value.string fun (x33 : ByteArray) =>
  Ld vw30 ((⟨w.heap.size, 0, none⟩ : Addr).add 3) Value.string fun (x34 : ByteArray) =>
  Ld vw30 ((⟨w.heap.size, 0, none⟩ : Addr).add 4) Value.string fun (x35 : ByteArray) =>
  Ld vw30 ((⟨w.heap.size, 0, none⟩ : Addr).add 5) Value.string fun (x36 : ByteArray) =>
  Ld vw30 ((⟨w.heap.size, 0, none⟩ : Addr).add 6) Value.string fun (x37 : ByteArray) =>
  Ld vw30 ((⟨w.heap.size, 0, none⟩ : Addr).add 7) Value.string fun (x38 : ByteArray) =>
  Ld vw30 ((⟨w.heap.size, 0, none⟩ : Addr).add 8) Value.string fun (x39 : ByteArray) =>
  Ld vw30 ((⟨w.heap.size, 0, none⟩ : Addr).add 9) Value.string fun (x40 : ByteArray) =>
  Ld vw30 ((⟨w.heap.size, 0, none⟩ : Addr).add 10) Value.string fun (x41 : ByteArray) =>
  Ld vw30 ((⟨w.heap.size, 0, none⟩ : Addr).add 11) Value.string fun (x42 : ByteArray) =>
  Ld vw30 ((⟨w.heap.size, 0, none⟩ : Addr).add 12) Value.string fun (x43 : ByteArray) =>
  Ld vw30 ((⟨w.heap.size, 0, none⟩ : Addr).add 13) Value.string fun (x44 : ByteArray) =>
  Ld vw30 ((⟨w.heap.size, 0, none⟩ : Addr).add 14) Value.string fun (x45 : ByteArray) =>
  Ld vw30 ((⟨w.heap.size, 0, none⟩ : Addr).add 15) Value.string fun (x46 : ByteArray) =>
  Ld vw30 ((⟨w.heap.size, 0, none⟩ : Addr).add 16) Value.string fun (x47 : ByteArray) =>
  Ld vw30 ((⟨w.heap.size, 0, none⟩ : Addr).add 17) Value.string fun (x48 : ByteArray) =>
  Ld vw30 ((⟨w.heap.size, 0, none⟩ : Addr).add 18) Value.string fun (x49 : ByteArray) =>
  Ld vw30 ((⟨w.heap.size, 0, none⟩ : Addr).add 19) Value.string fun (x50 : ByteArray) =>
  Ld vw30 ((⟨w.heap.size, 0, none⟩ : Addr).add 20) Value.string fun (x51 : ByteArray) =>
  Ld vw30 ((⟨w.heap.size, 0, none⟩ : Addr).add 21) Value.string fun (x52 : ByteArray) =>
  Ld vw30 ((⟨w.heap.size, 0, none⟩ : Addr).add 22) Value.string fun (x53 : ByteArray) =>
  Ld vw30 ((⟨w.heap.size, 0, none⟩ : Addr).add 23) Value.string fun (x54 : ByteArray) =>
  Ld vw30 ((⟨w.heap.size, 0, none⟩ : Addr).add 24) Value.string fun (x55 : ByteArray) =>
  Ld vw30 ((⟨w.heap.size, 0, none⟩ : Addr).add 25) Value.string fun (x56 : ByteArray) =>
  Ld vw30 ((⟨w.heap.size, 0, none⟩ : Addr).add 26) Value.string fun (x57 : ByteArray) =>
  Ld vw30 ((⟨w.heap.size, 0, none⟩ : Addr).add 27) Value.string fun (x58 : ByteArray) =>
  Lp (σ := Int) (S44L1 name1 x31 x32 x33 x34 x35 x36 x37 x38 x39 x40 x41 x42 x43 x44 x45 x46 x47 x48 x49 x50 x51 x52 x53 x54 x55 x56 x57 x58 R) 0 vw30
def pl44 : Plan := (.seq (.reg .seq) (.seq (.reg .seq) (.seq (.seq (.reg .seq) (.block (.loop [(22, (.one (.int .i64)))] [0, 21] (.seq (.reg .seq) (.seq (.cond .leaf .leaf) (.seq (.block (.seq (.reg .seq) (.seq (.reg .seq) (.cond (.seq (.reg .seq) .leaf) .leaf)))) (.reg .seq))))))) (.seq (.reg .seq) .leaf))))
set_option maxRecDepth 100000 in
theorem T44 (name1 : ByteArray) (w : World) (R : ByteArray → World → Prop) (h : S44 name1 w R) : C44 name1 w R := by
  have e : fnT Tryd.prog ⟨FF, MAY, (fun _ _ => False)⟩ pl44 Tryd.f44 [.string name1] w [(.one .str)] (fun s w => R s w) = S44 name1 w R := by kernel_rfl
  exact (fn_calls okF okM Tryd.func44 (by kernel_rfl) (by kernel_rfl) (e.mpr h)).mono fun _ _ ⟨s, he, hR⟩ => ⟨s, he, hR⟩

/-- foliant/ops.fits -/
def S45 (letter1 : Int) (kind2 : Int) (w : World) (R : Bool → World → Prop) : Prop :=
  Br (letter1 == 110) (Br (kind2 == 2) (R true w) (R (kind2 == 3) w)) (Br (letter1 == 115) (R (kind2 == 4) w) (Br (letter1 == 78) (R (kind2 == 5) w) (Br (letter1 == 97) (R (kind2 == 6) w) (Br (letter1 == 100) (R (kind2 == 7) w) (R true w)))))
def pl45 : Plan := (.seq (.reg .seq) (.seq (.seq (.reg .seq) (.block (.seq (.reg .seq) (.cond (.seq (.reg .seq) .leaf) (.seq (.reg .seq) (.cond (.seq (.reg .seq) .leaf) (.seq (.reg .seq) (.cond (.seq (.reg .seq) .leaf) (.seq (.reg .seq) (.cond (.seq (.reg .seq) .leaf) (.seq (.reg .seq) (.cond (.seq (.reg .seq) .leaf) .leaf)))))))))))) (.seq (.reg .seq) .leaf)))
set_option maxRecDepth 100000 in
theorem T45 (letter1 : Int) (kind2 : Int) (w : World) (R : Bool → World → Prop) (h : S45 letter1 kind2 w R) : C45 letter1 kind2 w R := by
  have e : fnT Tryd.prog ⟨FF, MAY, (fun _ _ => False)⟩ pl45 Tryd.f45 [.int .i32 letter1, .int .i64 kind2] w [(.one .bool)] (fun s w => R s w) = S45 letter1 kind2 w R := by kernel_rfl
  exact (fn_calls okF okM Tryd.func45 (by kernel_rfl) (by kernel_rfl) (e.mpr h)).mono fun _ _ ⟨s, he, hR⟩ => ⟨s, he, hR⟩

def S23L1 (w : World) (vw5 : World) (R : Int → World → Prop) (I23 : Unit → World → Prop) (s21 : Unit) (vw22 : World) : Prop :=
  Nx vw22 (⟨vw5.heap.size, 0, none⟩ : Addr) (fun (i24 : Int) (ch25 : Int) (vw26 : World) =>
    Ld vw26 ((⟨w.heap.size, 0, none⟩ : Addr).add 1) Slc.v fun (x27 : Slc) =>
    0 ≤ i24 ∧ i24 < (x27.len : Nat) ∧ Nn x27.p fun a28 =>
    Ld vw26 (a28.add ((i24).toNat * 6)) (Value.int .i64) fun (x29 : Int) =>
    C45 ch25 x29 vw26 fun r30 vw31 =>
      Br (!r30) (R 28 vw31) (I23 () vw31)) (Ld vw22 ((⟨w.heap.size, 0, none⟩ : Addr).add 2) Value.string fun (x32 : ByteArray) =>
    Br (!(x32.toList == (⟨#[]⟩ : ByteArray).toList)) (Ld vw22 (⟨w.heap.size, 0, none⟩ : Addr) Value.string fun (x33 : ByteArray) =>
      Br (!(x33.toList == (⟨#[66, 73]⟩ : ByteArray).toList)) (R 3 vw22) (R 0 vw22)) (R 0 vw22))
/-- foliant/ops.Check -/
def S23 (o1 : ByteArray × Slc × ByteArray) (w : World) (R : Int → World → Prop) : Prop :=
  Nw w (.cells #[.string o1.1, Slc.v o1.2.1, .string o1.2.2] 31) fun vw2 =>
  Ld vw2 (⟨w.heap.size, 0, none⟩ : Addr) Value.string fun (x3 : ByteArray) =>
  C44 x3 vw2 fun r4 vw5 =>
    Br (r4.toList == (⟨#[63]⟩ : ByteArray).toList) (R 28 vw5) (Ld vw5 ((⟨w.heap.size, 0, none⟩ : Addr).add 1) Slc.v fun (x7 : Slc) =>
      Br ((((r4).size : Nat) : Int) != ((x7.len : Nat) : Int)) (R 28 vw5) (Nw vw5 (.stringIter r4 0) fun vw20 =>
        Lp (σ := Unit) (S23L1 w vw5 R) () vw20))
def pl23 : Plan := (.seq (.reg .seq) (.seq (.reg .seq) (.seq (.seq (.reg .seq) (.cond (.seq (.reg .seq) .leaf) .leaf)) (.seq (.seq (.reg .seq) (.block (.loop [] [1, 20] (.seq (.reg .seq) (.seq (.cond .leaf .leaf) (.block (.seq (.reg .seq) (.seq (.reg .seq) (.cond (.seq (.reg .seq) .leaf) .leaf))))))))) (.seq (.seq (.reg .seq) (.cond (.seq (.reg .seq) .leaf) .leaf)) (.seq (.reg .seq) .leaf))))))
set_option maxRecDepth 100000 in
theorem T23 (o1 : ByteArray × Slc × ByteArray) (w : World) (R : Int → World → Prop) (h : S23 o1 w R) : C23 (o1.1, o1.2.1, o1.2.2) w R := by
  have e : fnT Tryd.prog ⟨FF, MAY, (fun _ _ => False)⟩ pl23 Tryd.f23 [.agg #[.string o1.1, Slc.v o1.2.1, .string o1.2.2]] w [(.one (.int .i64))] (fun s w => R s w) = S23 o1 w R := by kernel_rfl
  exact (fn_calls okF okM Tryd.func23 (by kernel_rfl) (by kernel_rfl) (e.mpr h)).mono fun _ _ ⟨s, he, hR⟩ => ⟨s, he, hR⟩

end Go.Proofs.YtdchpkbpnfoknaaDoor

/- Content operators: strings.Fields over ASCII, slices.Contains over strings, ops.Takes. Condition: the table of spaces is laid. -/
namespace Go.Proofs.YtdchpkbpnfoknaaDoor
namespace Opr
open Sh
set_option linter.unusedVariables false
set_option linter.unusedSimpArgs false
set_option maxRecDepth 4000
set_option maxHeartbeats 4000000
theorem Br.t {b : Bool} {A B : Prop} (h : b = true) (h1 : A) : Br b A B := by rw [h]; exact h1
theorem Br.f {b : Bool} {A B : Prop} (h : b = false) (h1 : B) : Br b A B := by rw [h]; exact h1
theorem pair_eq {α β : Type} {a c : α} {b d : β} (h : a = c) (k : b = d) : (a, b) = (c, d) := by rw [h, k]
abbrev bl (s : ByteArray) : By := s.data.toList
def ba (l : By) : ByteArray := ⟨l.toArray⟩
theorem bl_ba (l : By) : bl (ba l) = l := by simp [bl, ba]
theorem ba_bl (s : ByteArray) : ba (bl s) = s := ba_ext (bl_ba _)
theorem bl_size (s : ByteArray) : s.size = (bl s).length := (Array.length_toList (xs := s.data)).symm
theorem ba_size (l : By) : (ba l).size = l.length := List.size_toArray
theorem eqB (a b : ByteArray) : (a.toList == b.toList) = decide (bl a = bl b) := by
  rw [ByteArray.toList_eq, ByteArray.toList_eq]
  by_cases h : bl a = bl b
  · rw [decide_eq_true h]
    simpa using h
  · rw [decide_eq_false h]
    simpa using h
theorem ext_bl (s : ByteArray) (a b : Nat) : s.extract a b = ba (((bl s).drop a).take (b - a)) := by
  apply ba_ext
  show _ = ((((bl s).drop a).take (b - a)).toArray).toList
  simp only [ByteArray.data_extract, Array.toList_extract, List.extract_eq_take_drop, bl]
/-- The table of spaces, in its block. -/
def AS (w : World) : Prop := ∀ c : Nat, c < 256 → w.cell? ⟨1, c, none⟩ = some (.int .u8 (if spB (UInt8.ofNat c) = true then 1 else 0))
theorem AS.keep {w w' : World} (h : AS w) (he : Ext (fun _ => False) w w') : AS w' := fun c hc => he.cell_same (h c hc)
theorem AS.keepF {F : Nat → Prop} {w w' : World} (h : AS w) (he : Ext F w w') (hF : ¬ F 1) : AS w' := fun c hc => by
  have := h c hc
  rw [he.cell (cell_lt' this) hF]
  exact this
theorem AS.at {w : World} (h : AS w) {s : ByteArray} {i : Nat} {K : Int → Prop} (hi : i < s.size) (k : K (if spB (at' (bl s) i) = true then 1 else 0)) :
    0 ≤ (i : Int) ∧ (i : Int) < ((s.size : Nat) : Int) ∧ 0 ≤ bAt s (i : Int) ∧ bAt s (i : Int) < (256 : Nat) ∧ Ld w ((⟨1, 0, none⟩ : Addr).add ((bAt s (i : Int)).toNat * 1)) (Value.int .u8) K := by
  rw [bAt_list]
  have hb := UInt8.toNat_lt (at' (bl s) i)
  have e : (at' (bl s) i) = (bl s).getD i 0 := rfl
  refine ⟨by omega, by omega, by omega, by rw [← e]; omega, ?_⟩
  rw [Int.toNat_natCast, Nat.mul_one, add_lit, Nat.zero_add]
  refine Ld.mk (x := if spB (at' (bl s) i) = true then 1 else 0) ?_ k
  have := h _ (show ((bl s).getD i 0).toNat < 256 by rw [← e]; exact hb)
  rw [UInt8.ofNat_toNat] at this
  exact this
def strsB (L : List By) : List Value := L.map fun l => .string (ba l)
theorem strsB_len (L : List By) : (strsB L).length = L.length := by unfold strsB; simp
theorem strsB_get {L : List By} {i : Nat} {l : By} (h : L[i]? = some l) : (strsB L)[i]? = some (.string (ba l)) := by
  unfold strsB
  rw [List.getElem?_map, h]
  rfl
theorem strsB_set (L : List By) (i : Nat) (l : By) : (strsB L).set i (.string (ba l)) = strsB (L.set i l) := by unfold strsB; rw [List.map_set]
/-- The strings of a slice. -/
def SL (w : World) (s : Slc) (L : List By) : Prop := s.len = L.length ∧ VRow w s 1 (strsB L)
theorem SL.keep {w w' : World} {s : Slc} {L : List By} (h : SL w s L) (he : Ext (fun _ => False) w w') : SL w' s L := ⟨h.1, h.2.keep he⟩
theorem SL.get {w : World} {s : Slc} {L : List By} (h : SL w s L) {i : Nat} {l : By} (hi : L[i]? = some l) : ∃ a, s.p = some a ∧ w.cell? (a.add (i * 1)) = some (.string (ba l)) := by
  obtain ⟨a, ha, hc⟩ := h.2.2 i _ (strsB_get hi)
  exact ⟨a, ha, by rw [Nat.mul_one]; exact hc⟩
theorem SL.blk {w : World} {g n : Nat} {L : List By} {t : TypeId} (h : Blk w g (strsB L).toArray t) (hn : n = L.length) : SL w ⟨some ⟨g, 0, none⟩, n, n⟩ L := ⟨hn, VRow.of h (by rw [strsB_len, hn]; omega)⟩
theorem elS : El Tryd.prog 62 9 1 16 (.string ByteArray.empty) := ⟨by kernel_rfl, by kernel_rfl, by kernel_rfl, by kernel_rfl, rfl⟩
theorem flat_strs (n : Nat) : (List.replicate n [Value.string ByteArray.empty]).flatten = strsB (List.replicate n []) := by
  unfold strsB
  induction n with
  | zero => rfl
  | succ n ih => rw [List.replicate_succ, List.flatten_cons, ih, List.replicate_succ]; rfl
theorem cnt_le (s : By) : ∀ i, (cnt s i).1 ≤ i
  | 0 => Nat.le_refl _
  | i + 1 => by
    have := cnt_le s i
    show (cnt s i).1 + _ ≤ _
    split <;> omega
theorem and4 (a b : Bool) : iand .i64 (if a = true then 1 else 0) (ixor .i64 (-1) (IntKind.i64.wrap (if b = true then 1 else 0))) = if a = true ∧ b = false then 1 else 0 := by
  cases a <;> cases b <;> decide
theorem or7 {x y : Nat} (hx : x < 128) (hy : y < 128) : ∃ z : Nat, ior .u8 (x : Int) (y : Int) = (z : Int) ∧ z < 128 :=
  ⟨x ||| y, Bit.ior_u8_nat (by omega) (by omega), Nat.or_lt_two_pow (n := 7) hx hy⟩
theorem skip_le (s : By) : ∀ f i, i ≤ skip s f i
  | 0, i => Nat.le_refl _
  | f + 1, i => by
    unfold skip
    split
    · have := skip_le s f (i + 1); omega
    · exact Nat.le_refl _
theorem skip_len (s : By) : ∀ f i, i ≤ s.length → skip s f i ≤ s.length
  | 0, i, h => h
  | f + 1, i, h => by
    unfold skip
    split
    · exact skip_len s f (i + 1) (by omega)
    · exact h
theorem runF_len {s : By} {n : Nat} {res : List By} : ∀ (f i fs : Nat) (out : List By), runF s n f i fs out = some res → out.length ≤ res.length
  | 0, _, _, _, h => by cases h
  | f + 1, i, fs, out, h => by
    unfold runF at h
    split at h
    · split at h
      · exact runF_len f _ _ _ h
      · split at h
        · have := runF_len f _ _ _ h
          rw [List.length_append] at this
          omega
        · cases h
    · split at h
      · split at h
        · cases h
          rw [List.length_append]
          omega
        · cases h
      · cases h
        exact Nat.le_refl _
attribute [local irreducible] Ld St Nw Nn Lt LdS
section
variable {w w1 : World} {s : ByteArray} {L : List By}
theorem c_fields (h : AS w) (hs : fieldsM (bl s) = some L) (hsz : s.size ≤ 1000000) : C62 s w fun r w1 => SL w1 r L ∧ Ext (fun _ => False) w w1 := by
  refine T62 _ _ _ ?_
  unfold S62
  have hl := bl_size s
  unfold fieldsM at hs
  split at hs
  rotate_left
  · cases hs
  rename_i hall
  split at hs
  rotate_left
  · cases hs
  rename_i res hrun
  split at hs
  rotate_left
  · cases hs
  rename_i hres
  cases hs
  have low : ∀ i, i < (bl s).length → (at' (bl s) i).toNat < 128 := fun i hi => by
    have := List.all_eq_true.1 hall (at' (bl s) i) (by unfold at'; rw [List.getD_eq_getElem?_getD, List.getElem?_eq_getElem hi]; exact List.getElem_mem hi)
    have := of_decide_eq_true this
    exact this
  refine ⟨fun n st w1 => ∃ i z : Nat, st = (((cnt (bl s) i).1 : Int), (if (cnt (bl s) i).2 = true then 1 else 0), (z : Int), (i : Int)) ∧ z < 128 ∧ i ≤ (bl s).length ∧ n = (bl s).length - i ∧ w1 = w, (bl s).length, ⟨0, 0, rfl, by omega, by omega, rfl, rfl⟩, ?_⟩
  rintro n st w0 ⟨i, z, rfl, hz, hi, rfl, rfl⟩
  unfold S62L4
  dsimp only
  have hcl := cnt_le (bl s) i
  refine Br.dec (fun q => h.at (by omega) ?_) fun q => ?_
  · obtain ⟨z', hz1, hz2⟩ := or7 (x := z) (y := (at' (bl s) i).toNat) hz (low i (by omega))
    have eb : bAt s (i : Int) = ((at' (bl s) i).toNat : Int) := bAt_list s i
    rw [eb, hz1, and4, i64_id (n := (i : Int) + 1) (by omega)]
    refine ⟨(bl s).length - (i + 1), by omega, i + 1, z', ?_, hz2, by omega, rfl, rfl⟩
    refine pair_eq ?_ (pair_eq ?_ rfl)
    · show _ = (((cnt (bl s) i).1 + _ : Nat) : Int)
      by_cases hc : (cnt (bl s) i).2 = true ∧ spB (at' (bl s) i) = false
      · rw [if_pos hc, if_pos hc, i64_id (by omega)]
        rfl
      · rw [if_neg hc, if_neg hc, i64_id (by omega)]
        omega
    · rw [i64_id (by split <;> omega)]
      rfl
  · have : i = (bl s).length := by omega
    subst this
    refine Br.dec (fun q2 => by omega) fun q2 => ?_
    have hc := cnt_le (bl s) (bl s).length
    generalize hn : (cnt (bl s) (bl s).length).1 = N at *
    obtain ⟨w2, hmk, hw2⟩ := elS.make (zs := [.string ByteArray.empty]) rfl w0 N (by omega) (by omega)
    refine ⟨_, w2, hmk, ?_⟩
    have H : Hn w0 w2 [(w0.heap.size, strsB (List.replicate N []), 9)] := by
      rw [← flat_strs, hw2]
      exact ((Hn.start w0).keep ((Ext.refl _ _).alloc _)).push (Blk.new _ _ _) (Nat.le_refl _) (by simp)
    clear hw2 hmk
    have hsk0 := skip_len (bl s) ((bl s).length + 1) 0 (by omega)
    generalize hS0 : skip (bl s) ((bl s).length + 1) 0 = S0 at *
    refine ⟨fun st w3 => st = ((S0 : Nat) : Int) ∧ w3 = w2, ?_, ?_⟩
    rotate_left
    · refine ⟨fun n st w3 => ∃ f i : Nat, st = (i : Int) ∧ i ≤ (bl s).length ∧ n = f ∧ (bl s).length < i + f ∧ skip (bl s) f i = S0 ∧ w3 = w2, (bl s).length + 1, ⟨(bl s).length + 1, 0, rfl, by omega, rfl, by omega, hS0, rfl⟩, ?_⟩
      rintro n st w3 ⟨f, i, rfl, hi, rfl, hf, hsk, rfl⟩
      unfold S62L3
      obtain ⟨f, rfl⟩ : ∃ f', n = f' + 1 := ⟨n - 1, by omega⟩
      unfold skip at hsk
      refine Br.dec (fun q3 => (h.keep H.ext).at (by omega) ?_) fun q3 => ?_
      · by_cases hsp : spB (at' (bl s) i) = true
        · rw [if_pos hsp]
          rw [if_pos ⟨by omega, hsp⟩] at hsk
          refine Br.t rfl ⟨f, by omega, f, i + 1, by rw [i64_id (by omega)]; rfl, by omega, rfl, by omega, hsk, rfl⟩
        · rw [if_neg hsp]
          rw [if_neg (fun hh => hsp hh.2)] at hsk
          exact Br.f rfl ⟨by rw [← hsk], rfl⟩
      · rw [if_neg (fun hh => by omega)] at hsk
        exact ⟨by rw [← hsk], rfl⟩
    rintro st w3 ⟨rfl, rfl⟩
    unfold S62J1
    refine ⟨fun n st w3 => ∃ (f i fs : Nat) (out : List By), st = (((out.length : Nat) : Int), (fs : Int), (i : Int)) ∧ i ≤ (bl s).length ∧ fs ≤ i ∧ n = f ∧ runF (bl s) N f i fs out = some L ∧ out.length ≤ N ∧ Hn w0 w3 [(w0.heap.size, strsB (out ++ List.replicate (N - out.length) []), 9)], (bl s).length + 1,
      ⟨(bl s).length + 1, _, _, [], rfl, hsk0, Nat.le_refl _, rfl, hrun, by simp, by simpa using H⟩, ?_⟩
    clear H hrun
    rintro n st w3 ⟨f, i, fs, out, rfl, hi, hfs, rfl, hrun, hout, H⟩
    unfold S62L2
    dsimp only
    obtain ⟨f, rfl⟩ : ∃ f', n = f' + 1 := by
      cases n with
      | zero => cases hrun
      | succ n => exact ⟨n, rfl⟩
    unfold runF at hrun
    have hrl : (strsB (out ++ List.replicate (N - out.length) [])).length = N := by
      rw [strsB_len, List.length_append, List.length_replicate]
      omega
    have setL : ∀ p : By, out.length < N → (strsB (out ++ List.replicate (N - out.length) [])).set out.length (.string (ba p)) = strsB ((out ++ [p]) ++ List.replicate (N - (out ++ [p]).length) []) := fun p hlt => by
      rw [strsB_set, List.set_append_right _ _ (Nat.le_refl _), Nat.sub_self, show N - out.length = (N - (out ++ [p]).length) + 1 by simp; omega, List.replicate_succ, List.set_cons_zero, List.append_assoc]
      rfl
    refine Br.dec (fun q3 => (h.keep H.ext).at (by omega) ?_) fun q3 => ?_
    · rw [if_pos (by omega)] at hrun
      by_cases hsp : spB (at' (bl s) i) = false
      · rw [if_pos hsp] at hrun
        rw [hsp]
        exact Br.t rfl ⟨f, by omega, f, i + 1, fs, out, by rw [i64_id (by omega)]; rfl, by omega, by omega, rfl, hrun, hout, H⟩
      · rw [if_neg hsp] at hrun
        have hsp1 : spB (at' (bl s) i) = true := by simpa using hsp
        rw [hsp1]
        split at hrun
        rotate_left
        · cases hrun
        rename_i hlt
        refine Br.f rfl ⟨by omega, by omega, by omega, by omega, by omega, by show ((out.length : Nat) : Int) < ((N : Nat) : Int); omega, Nn.of ?_⟩
        simp only [add_lit, Int.toNat_natCast, Nat.mul_one, Nat.zero_add]
        refine H.st 0 rfl (by rw [hrl]; exact hlt) fun w4 H => ?_
        simp only [List.set_cons_zero] at H
        rw [ext_bl, setL _ hlt] at H
        have hskl := skip_len (bl s) ((bl s).length + 1) (i + 1) (by omega)
        generalize hS1 : skip (bl s) ((bl s).length + 1) (i + 1) = S1 at *
        refine ⟨fun n st w5 => ∃ g j : Nat, st = (j : Int) ∧ j ≤ (bl s).length ∧ i < j ∧ n = g ∧ (bl s).length < j + g ∧ skip (bl s) g j = S1 ∧ w5 = w4, (bl s).length + 1, ⟨(bl s).length + 1, i + 1, by rw [i64_id (by omega)]; rfl, by omega, by omega, rfl, by omega, hS1, rfl⟩, ?_⟩
        rintro n st w5 ⟨g, j, rfl, hj, hij, rfl, hg, hsk, rfl⟩
        unfold S62L1
        obtain ⟨g, rfl⟩ : ∃ g', n = g' + 1 := ⟨n - 1, by omega⟩
        unfold skip at hsk
        dsimp only
        have next : j = S1 → ∃ n', n' < f + 1 ∧ ∃ (f' i' fs' : Nat) (out' : List By), (IntKind.i64.wrap (((out.length : Nat) : Int) + 1), (j : Int), (j : Int)) = (((out'.length : Nat) : Int), (fs' : Int), (i' : Int)) ∧ i' ≤ (bl s).length ∧ fs' ≤ i' ∧ n' = f' ∧ runF (bl s) N f' i' fs' out' = some L ∧ out'.length ≤ N ∧ Hn w0 w5 [(w0.heap.size, strsB (out' ++ List.replicate (N - out'.length) []), 9)] := fun hh => by
          refine ⟨f, by omega, f, j, j, out ++ [((bl s).drop fs).take (i - fs)], ?_, hj, Nat.le_refl _, rfl, by rw [hh]; exact hrun, by rw [List.length_append]; simp; omega, H⟩
          rw [i64_id (by omega), List.length_append]
          rfl
        refine Br.dec (fun q4 => (h.keep H.ext).at (by omega) ?_) fun q4 => ?_
        · by_cases hsp : spB (at' (bl s) j) = true
          · rw [if_pos hsp]
            rw [if_pos ⟨by omega, hsp⟩] at hsk
            refine Br.t rfl ⟨g, by omega, g, j + 1, by rw [i64_id (by omega)]; rfl, by omega, by omega, rfl, by omega, hsk, rfl⟩
          · rw [if_neg hsp]
            rw [if_neg (fun hh => hsp hh.2)] at hsk
            exact Br.f rfl (next hsk)
        · rw [if_neg (fun hh => by omega)] at hsk
          exact next hsk
    · rw [if_neg (by omega)] at hrun
      refine Br.dec (fun q4 => ⟨by omega, by omega, by omega, ?_⟩) fun q4 => ?_
      · rw [if_pos (by omega)] at hrun
        split at hrun
        rotate_left
        · cases hrun
        rename_i hlt
        cases hrun
        refine ⟨by show ((out.length : Nat) : Int) < ((N : Nat) : Int); omega, Nn.of ?_⟩
        simp only [add_lit, Int.toNat_natCast, Nat.mul_one, Nat.zero_add]
        refine H.st 0 rfl (by rw [hrl]; exact hlt) fun w4 H => ?_
        simp only [List.set_cons_zero] at H
        rw [ext_bl, setL _ hlt, hl] at H
        have e0 : N - (out ++ [((bl s).drop fs).take ((bl s).length - fs)]).length = 0 := by omega
        rw [e0, List.replicate_zero, List.append_nil] at H
        exact ⟨SL.blk (H.get 0 rfl) hres.symm, H.ext⟩
      · rw [if_neg (by omega)] at hrun
        cases hrun
        rw [hres, Nat.sub_self, List.replicate_zero, List.append_nil] at H
        exact ⟨SL.blk (H.get 0 rfl) hres.symm, H.ext⟩
end
end Opr
end Go.Proofs.YtdchpkbpnfoknaaDoor

/- Content operators: Takes and Check, on both sides. Condition: the table of spaces is laid. -/
namespace Go.Proofs.YtdchpkbpnfoknaaDoor
namespace Opr
open Sh Mat
set_option linter.unusedVariables false
set_option linter.unusedSimpArgs false
set_option maxRecDepth 8000
set_option maxHeartbeats 8000000
theorem takesL_at {nm : By} : ∀ (R : List (By × By × List By)) (i : Nat) (r : By × By × List By), R[i]? = some r → (∀ (j : Nat) (q : By × By × List By), j < i → R[j]? = some q → nm ∉ q.2.2) → nm ∈ r.2.2 → takesL nm R = r.1
  | [], i, r, h, _, _ => by cases h
  | x :: R, 0, r, h, _, hm => by
    cases h
    unfold takesL
    rw [if_pos hm]
  | x :: R, i + 1, r, h, hn, hm => by
    unfold takesL
    rw [if_neg (hn 0 x (by omega) rfl)]
    exact takesL_at R i r (by simpa using h) (fun j q hj hq => hn (j + 1) q (by omega) (by simpa using hq)) hm
theorem takesL_no {nm : By} : ∀ (R : List (By × By × List By)), (∀ (j : Nat) (q : By × By × List By), R[j]? = some q → nm ∉ q.2.2) → takesL nm R = [63]
  | [], _ => rfl
  | x :: R, hn => by
    unfold takesL
    rw [if_neg (hn 0 x rfl)]
    exact takesL_no R fun j q hq => hn (j + 1) q (by simpa using hq)
theorem takes_in (nm : By) : takes nm = [63] ∨ ∃ r ∈ rows, takes nm = r.1 := by
  have : ∀ R : List (By × By × List By), takesL nm R = [63] ∨ ∃ r ∈ R, takesL nm R = r.1 := fun R => by
    induction R with
    | nil => exact .inl rfl
    | cons x R ih =>
      unfold takesL
      split
      · exact .inr ⟨x, by simp, rfl⟩
      · rcases ih with h | ⟨r, hr, h⟩
        · exact .inl h
        · exact .inr ⟨r, List.mem_cons_of_mem _ hr, h⟩
  exact this rows
theorem rows_low : (rows.all fun r => decide (r.1.length ≤ 6) && r.1.all fun b => decide (b < 128)) = true := by decide +kernel
theorem takes_low (nm : By) : (takes nm).length ≤ 6 ∧ ∀ i, i < (takes nm).length → ((takes nm).getD i 0).toNat < 128 := by
  have key : ∀ l : By, (decide (l.length ≤ 6) && l.all fun b => decide (b < 128)) = true → l.length ≤ 6 ∧ ∀ i, i < l.length → (l.getD i 0).toNat < 128 := fun l hl => by
    obtain ⟨h1, h2⟩ := Bool.and_eq_true_iff.1 hl
    refine ⟨of_decide_eq_true h1, fun i hi => ?_⟩
    have := List.all_eq_true.1 h2 (l.getD i 0) (by rw [List.getD_eq_getElem?_getD, List.getElem?_eq_getElem hi]; exact List.getElem_mem hi)
    exact of_decide_eq_true this
  rcases takes_in nm with h | ⟨r, hr, h⟩
  · rw [h]
    exact key _ (by decide)
  · rw [h]
    exact key _ (List.all_eq_true.1 rows_low r hr)
/-- Whether an operand fits. -/
def fitsK (b : UInt8) (k : Int) : Bool := if b = 110 then k == 2 || k == 3 else if b = 115 then k == 4 else if b = 78 then k == 5 else if b = 97 then k == 6 else if b = 100 then k == 7 else true
def fitsT : By → List Ob → Bool
  | b :: t, o :: L => fitsK b o.1 && fitsT t L
  | _, _ => true
/-- What Check answers. -/
def chkF (nm : By) (L : List Ob) (d : By) : Int := if takes nm = [63] then 28 else if (takes nm).length ≠ L.length then 28 else if fitsT (takes nm) L = false then 28 else if d ≠ [] ∧ nm ≠ [66, 73] then 3 else 0
theorem fitsT_no {t : By} {L : List Ob} {i : Nat} {b : UInt8} {o : Ob} (hb : t[i]? = some b) (ho : L[i]? = some o) (h : fitsK b o.1 = false) : fitsT t L = false := by
  induction t generalizing L i with
  | nil => cases hb
  | cons x t ih =>
    cases L with
    | nil => cases ho
    | cons p L =>
      cases i with
      | zero =>
        cases hb; cases ho
        simp [fitsT, h]
      | succ i =>
        simp [fitsT, ih (by simpa using hb) (by simpa using ho)]
theorem fitsT_yes {t : By} {L : List Ob} (h : ∀ (i : Nat) (b : UInt8) (o : Ob), t[i]? = some b → L[i]? = some o → fitsK b o.1 = true) : fitsT t L = true := by
  induction t generalizing L with
  | nil => unfold fitsT; rfl
  | cons x t ih =>
    cases L with
    | nil => unfold fitsT; rfl
    | cons p L =>
      have h0 := h 0 x p rfl rfl
      have := ih (L := L) fun i b o hb ho => h (i + 1) b o (by simpa using hb) (by simpa using ho)
      simp [fitsT, h0, this]
theorem itW_ext (w : World) (b : Nat) (s : ByteArray) (p : Nat) : Ext (· = b) w (itW w b s p) :=
  ⟨rfl, rfl, rfl, by simp [itW], fun k hk hn => by
    unfold itW
    simp only
    rw [Array.getElem?_setIfInBounds]
    rw [if_neg fun e => hn e.symm]⟩
theorem itW_at {w : World} {b : Nat} {s : ByteArray} {p : Nat} (h : b < w.heap.size) : (itW w b s p).heap[b]? = some (.stringIter s p) := by
  unfold itW
  simp [Array.getElem?_setIfInBounds, h]
attribute [local irreducible] Ld St Nw Nn Lt LdS
section
variable {w w1 : World} {s : Slc} {L : List By}
theorem c_contains (h : SL w s L) (hl : L.length ≤ 1000000) (v : ByteArray) : C43 s v w fun r w1 => r = decide (bl v ∈ L) ∧ w1 = w := by
  refine T43 _ _ _ _ ?_
  unfold S43
  refine C61.mono (T61 _ _ _ (fun r w1 => decide (r ≥ 0) = decide (bl v ∈ L) ∧ w1 = w) ?_) (fun r w1 h => h)
  unfold S61
  refine ⟨fun n st w1 => ∃ i : Nat, st = (i : Int) ∧ i ≤ L.length ∧ n = L.length - i ∧ w1 = w ∧ ∀ j l, j < i → L[j]? = some l → bl v ≠ l, L.length, ⟨0, rfl, by omega, rfl, rfl, fun j l hj => by omega⟩, ?_⟩
  rintro n st w ⟨i, rfl, hi, rfl, rfl, hno⟩
  unfold S61L1
  rw [h.1]
  refine Br.dec (fun q => ⟨by omega, by omega, ?_⟩) fun q => ?_
  · obtain ⟨l, hli⟩ : ∃ l, L[i]? = some l := ⟨_, List.getElem?_eq_getElem (by omega)⟩
    obtain ⟨a, ha, hc⟩ := h.get hli
    rw [ha, Int.toNat_natCast]
    refine Nn.of (Ld.mk hc ?_)
    rw [eqB, bl_ba]
    refine Br.dec (fun q2 => ⟨?_, rfl⟩) fun q2 => ⟨L.length - (i + 1), by omega, i + 1, by rw [i64_id (by omega)]; rfl, by omega, rfl, rfl, fun j l' hj hl' => ?_⟩
    · rw [decide_eq_true (by omega), decide_eq_true (by rw [q2]; exact List.mem_of_getElem? hli)]
    · by_cases e : j = i
      · subst e
        rw [hli] at hl'
        cases hl'
        exact q2
      · exact hno j l' (by omega) hl'
  · refine ⟨?_, rfl⟩
    rw [decide_eq_false (by omega), decide_eq_false]
    intro hm
    obtain ⟨j, hj⟩ := List.mem_iff_getElem?.1 hm
    exact hno j _ (by have := (List.getElem?_eq_some_iff.1 hj).1; omega) hj rfl
theorem tab14 {i : Nat} (h : i < 14) : ∃ r, rows[i]? = some r ∧ (#[.string ⟨#[]⟩, .string ⟨#[98, 32, 66, 32, 98, 42, 32, 66, 42, 32, 66, 84, 32, 69, 84, 32, 69, 77, 67, 32, 66, 88, 32, 69, 88, 32, 102, 32, 70, 32, 102, 42, 32, 104, 32, 110, 32, 113, 32, 81, 32, 115, 32, 83, 32, 84, 42, 32, 87, 32, 87, 42]⟩, .string ⟨#[110]⟩, .string ⟨#[103, 32, 71, 32, 105, 32, 106, 32, 74, 32, 77, 32, 119, 32, 84, 99, 32, 84, 76, 32, 84, 114, 32, 84, 115, 32, 84, 119, 32, 84, 122]⟩, .string ⟨#[110, 110]⟩, .string ⟨#[100, 48, 32, 108, 32, 109, 32, 84, 100, 32, 84, 68]⟩, .string ⟨#[110, 110, 110]⟩, .string ⟨#[114, 103, 32, 82, 71]⟩, .string ⟨#[110, 110, 110, 110]⟩, .string ⟨#[107, 32, 75, 32, 114, 101, 32, 118, 32, 121]⟩, .string ⟨#[110, 110, 110, 110, 110, 110]⟩, .string ⟨#[99, 32, 99, 109, 32, 100, 49, 32, 84, 109]⟩, .string ⟨#[78]⟩, .string ⟨#[66, 77, 67, 32, 99, 115, 32, 67, 83, 32, 68, 111, 32, 103, 115, 32, 77, 80, 32, 114, 105, 32, 115, 104]⟩, .string ⟨#[78, 110]⟩, .string ⟨#[84, 102]⟩, .string ⟨#[78, 42]⟩, .string ⟨#[66, 68, 67, 32, 68, 80]⟩, .string ⟨#[115]⟩, .string ⟨#[84, 106, 32, 39]⟩, .string ⟨#[110, 110, 115]⟩, .string ⟨#[34]⟩, .string ⟨#[97]⟩, .string ⟨#[84, 74]⟩, .string ⟨#[97, 110]⟩, .string ⟨#[100]⟩, .string ⟨#[100]⟩, .string ⟨#[66, 73]⟩] : Array Value).extract (i * 2) (i * 2 + 2) = #[.string (ba r.1), .string (ba r.2.1)] := by
  have hc : i = 0 ∨ i = 1 ∨ i = 2 ∨ i = 3 ∨ i = 4 ∨ i = 5 ∨ i = 6 ∨ i = 7 ∨ i = 8 ∨ i = 9 ∨ i = 10 ∨ i = 11 ∨ i = 12 ∨ i = 13 := by omega
  rcases hc with rfl | rfl | rfl | rfl | rfl | rfl | rfl | rfl | rfl | rfl | rfl | rfl | rfl | rfl <;> exact ⟨_, rfl, rfl⟩
theorem c_takes (h : AS w) (name : ByteArray) : C44 name w fun r w1 => r = ba (takes (bl name)) ∧ Ext (fun _ => False) w w1 := by
  refine T44 _ _ _ ?_
  unfold S44
  refine (Hn.start w).nw fun w2 H => ?_
  simp only [List.nil_append, add_lit, Nat.zero_add] at H ⊢
  iterate 28 (refine H.st 0 rfl (by simp) fun _ H => ?_; simp only [List.nil_append, List.cons_append, List.set_cons_zero, List.set_cons_succ, Nat.zero_add] at H)
  iterate 28 refine H.ld 0 rfl rfl ?_
  have e0 := H.ext
  clear H
  refine ⟨fun n st w3 => ∃ i : Nat, st = (i : Int) ∧ i ≤ 14 ∧ n = 14 - i ∧ Ext (fun _ => False) w w3 ∧ ∀ j q, j < i → rows[j]? = some q → bl name ∉ q.2.2, 14, ⟨0, rfl, by omega, rfl, e0, fun j q hj => by omega⟩, ?_⟩
  clear e0
  rintro n st w3 ⟨i, rfl, hi, rfl, e3, hno⟩
  unfold S44L1
  refine Br.dec (fun q => ⟨by omega, by omega, ?_⟩) fun q => ⟨?_, e3⟩
  · obtain ⟨r, hr, hx⟩ := tab14 (i := i) (by omega)
    have hmem : r ∈ rows := List.mem_of_getElem? hr
    rw [Int.toNat_natCast]
    refine ⟨(ba r.1, ba r.2.1), hx, ?_⟩
    refine (Hn.start w3).nw fun w4 H => ?_
    simp only [List.nil_append] at H
    iterate 2 (refine H.st 0 rfl (by simp) fun _ H => ?_; simp only [List.nil_append, List.cons_append, List.set_cons_zero, List.set_cons_succ, Nat.zero_add] at H)
    iterate 1 refine H.ld 0 rfl rfl ?_
    have e4 := e3.tr H.ext
    refine (c_fields (h.keep e4) (L := r.2.2) (by rw [bl_ba]; exact of_decide_eq_true (List.all_eq_true.1 rows_ok r hmem)) (by
      have : (rows.all fun r => decide (r.2.1.length ≤ 1000)) = true := by decide +kernel
      have := of_decide_eq_true (List.all_eq_true.1 this r hmem)
      rw [ba_size]
      omega)).mono ?_
    rintro f w5 ⟨hf, e5⟩
    have H := H.keep e5
    refine (c_contains hf (by
      have : (rows.all fun r => decide (r.2.2.length ≤ 1000)) = true := by decide +kernel
      have := of_decide_eq_true (List.all_eq_true.1 this r hmem)
      omega) name).mono ?_
    rintro b w5 ⟨rfl, rfl⟩
    refine Br.dec (fun q2 => ?_) fun q2 => ?_
    · iterate 1 refine H.ld 0 rfl rfl ?_
      refine ⟨?_, e4.tr e5⟩
      congr 1
      exact (takesL_at rows i r hr hno q2).symm
    · refine ⟨14 - (i + 1), by omega, i + 1, by rw [i64_id (by omega)]; rfl, by omega, rfl, e4.tr e5, fun j q' hj hq' => ?_⟩
      by_cases e : j = i
      · subst e
        rw [hr] at hq'
        cases hq'
        exact q2
      · exact hno j q' (by omega) hq'
  · have hi14 : i = 14 := by omega
    have : takes (bl name) = [63] := takesL_no rows fun j q' hq' => hno j q' (by have := (List.getElem?_eq_some_iff.1 hq').1; have e : rows.length = 14 := rfl; omega) hq'
    rw [this]
    rfl
theorem c_fits (b : UInt8) (k : Int) (w : World) : C45 ((b.toNat : Nat) : Int) k w fun r w1 => r = fitsK b k ∧ w1 = w := by
  refine T45 _ _ _ _ ?_
  unfold S45 fitsK
  have e : ∀ c : UInt8, (((b.toNat : Nat) : Int) = ((c.toNat : Nat) : Int)) ↔ b = c := fun c => ⟨fun h => UInt8.toNat_inj.1 (by omega), fun h => by rw [h]⟩
  refine Br.eq (fun q => ?_) fun q => ?_
  · rw [if_pos ((e 110).1 q)]
    refine Br.eq (fun q2 => ⟨by rw [q2]; rfl, rfl⟩) fun q2 => ⟨by simp [q2], rfl⟩
  rw [if_neg fun h => q ((e 110).2 h)]
  refine Br.eq (fun q => ?_) fun q => ?_
  · rw [if_pos ((e 115).1 q)]
    exact ⟨rfl, rfl⟩
  rw [if_neg fun h => q ((e 115).2 h)]
  refine Br.eq (fun q => ?_) fun q => ?_
  · rw [if_pos ((e 78).1 q)]
    exact ⟨rfl, rfl⟩
  rw [if_neg fun h => q ((e 78).2 h)]
  refine Br.eq (fun q => ?_) fun q => ?_
  · rw [if_pos ((e 97).1 q)]
    exact ⟨rfl, rfl⟩
  rw [if_neg fun h => q ((e 97).2 h)]
  refine Br.eq (fun q => ?_) fun q => ?_
  · rw [if_pos ((e 100).1 q)]
    exact ⟨rfl, rfl⟩
  rw [if_neg fun h => q ((e 100).2 h)]
  exact ⟨rfl, rfl⟩
theorem byte_at {t : By} {i : Nat} (h : i < t.length) : t[i]? = some (t.getD i 0) := by
  rw [List.getD_eq_getElem?_getD, List.getElem?_eq_getElem h]
  rfl
theorem dec_at {t : By} {i : Nat} (h : i < t.length) (hb : (t.getD i 0).toNat < 128) : Utf8.decode (ba t) i = ((t.getD i 0).toNat, 1) := by
  have hs : i < (ba t).size := by rw [ba_size]; exact h
  have e : (ba t)[i]'hs = t.getD i 0 := by
    rw [List.getD_eq_getElem?_getD, List.getElem?_eq_getElem h]
    rfl
  have := decode_ascii (ba t) i hs (by rw [e]; exact hb)
  rw [this, e]
theorem c_check {name data : ByteArray} {s : Slc} {L : List Ob} (h : AS w) (hL : OV w s L) (hlen : L.length ≤ 9223372036854775807) : C23 (name, s, data) w fun r w1 => r = chkF (bl name) L (bl data) ∧ Ext (fun _ => False) w w1 := by
  refine T23 (name, s, data) _ _ ?_
  unfold S23
  refine (Hn.start w).nw fun w2 H => ?_
  simp only [List.nil_append] at H
  iterate 1 refine H.ld 0 rfl rfl ?_
  refine (c_takes (h.keep H.ext) name).mono ?_
  rintro t w3 ⟨rfl, e3⟩
  have H := H.keep e3
  obtain ⟨tl1, tl2⟩ := takes_low (bl name)
  rw [eqB, bl_ba]
  unfold chkF
  refine Br.dec (fun q => ⟨by rw [if_pos q], H.ext⟩) fun q => ?_
  have q' : takes (bl name) ≠ [63] := q
  rw [if_neg q']
  iterate 1 refine H.ld 0 rfl rfl ?_
  rw [ba_size, hL.1]
  refine Br.ne (fun q2 => ⟨by rw [if_pos (by omega)], H.ext⟩) fun q2 => ?_
  rw [if_neg (c := List.length (takes (bl name)) ≠ List.length L) (by omega)]
  generalize ht : takes (bl name) = t at *
  refine Nw.of ?_
  have hb3 : w3.heap.size < (w3.alloc (.stringIter (ba t) 0)).heap.size := by simp
  have H4 := H.keep ((Ext.refl (fun _ => False) w3).alloc (.stringIter (ba t) 0))
  have hlt := H.lt 0 rfl
  refine ⟨fun n st w4 => ∃ i : Nat, i ≤ t.length ∧ n = t.length - i ∧ w4.heap[w3.heap.size]? = some (.stringIter (ba t) i) ∧ Hn w w4 [(w.heap.size, [.string name, Slc.v s, .string data], 31)] ∧ ∀ j b o, j < i → t[j]? = some b → L[j]? = some o → fitsK b o.1 = true, t.length,
    ⟨0, by omega, rfl, by show (w3.heap.push _)[w3.heap.size]? = _; simp, H4, fun j b o hj => by omega⟩, ?_⟩
  rintro n st w4 ⟨i, hi, rfl, hit, H, hall⟩
  unfold S23L1
  have hsz4 : w3.heap.size < w4.heap.size := (Array.getElem?_eq_some_iff.1 hit).1
  refine ⟨ba t, i, rfl, hit, ?_⟩
  rw [ba_size]
  refine Br.dec (fun q3 => ?_) fun q3 => ?_
  · rw [dec_at q3 (tl2 i q3)]
    have e5 := itW_ext w4 w3.heap.size (ba t) (i + 1)
    have H5 : Hn w (itW w4 w3.heap.size (ba t) (i + 1)) [(w.heap.size, [.string name, Slc.v s, .string data], 31)] := H.other e5 fun j hj => by subst hj; simp; omega
    have hit5 := itW_at (s := ba t) (p := i + 1) hsz4
    generalize itW w4 w3.heap.size (ba t) (i + 1) = w5 at *
    refine H5.ld 0 rfl rfl ?_
    obtain ⟨o, ho⟩ : ∃ o, L[i]? = some o := ⟨_, List.getElem?_eq_getElem (by omega)⟩
    obtain ⟨a, ha, c0, _⟩ := (hL.keep H5.ext).get ho
    rw [hL.1, ha, Int.toNat_natCast]
    refine ⟨by omega, by omega, Nn.of (Ld.mk c0 ((c_fits _ _ _).mono ?_))⟩
    rintro r w6 ⟨rfl, rfl⟩
    by_cases hf : fitsK (t.getD i 0) o.1 = true
    · rw [hf]
      refine Br.f rfl ⟨t.length - (i + 1), by omega, i + 1, by omega, rfl, hit5, H5, fun j b o' hj hb ho' => ?_⟩
      by_cases e : j = i
      · subst e
        rw [byte_at q3] at hb
        rw [ho] at ho'
        cases hb; cases ho'
        exact hf
      · exact hall j b o' (by omega) hb ho'
    · have hf : fitsK (t.getD i 0) o.1 = false := by simpa using hf
      rw [hf]
      exact Br.t rfl ⟨by rw [if_pos (fitsT_no (byte_at q3) ho hf)], H5.ext⟩
  · have hyes : fitsT t L = true := fitsT_yes fun j b o hb ho => hall j b o (by have := (List.getElem?_eq_some_iff.1 hb).1; omega) hb ho
    rw [if_neg (by rw [hyes]; simp)]
    iterate 1 refine H.ld 0 rfl rfl ?_
    rw [eqB]
    have e0 : bl (⟨#[]⟩ : ByteArray) = [] := rfl
    have e1 : bl (⟨#[66, 73]⟩ : ByteArray) = [66, 73] := rfl
    rw [e0]
    by_cases hd : bl data = []
    · rw [decide_eq_true hd, if_neg fun hh => hh.1 hd]
      exact Br.f rfl ⟨rfl, H.ext⟩
    · rw [decide_eq_false hd]
      refine Br.t rfl ?_
      iterate 1 refine H.ld 0 rfl rfl ?_
      rw [eqB, e1]
      by_cases hn : bl name = [66, 73]
      · rw [decide_eq_true hn, if_neg fun hh => hh.2 hn]
        exact Br.f rfl ⟨rfl, H.ext⟩
      · rw [decide_eq_false hn, if_pos ⟨hd, hn⟩]
        exact Br.t rfl ⟨rfl, H.ext⟩
end
end Opr
end Go.Proofs.YtdchpkbpnfoknaaDoor

/- Content operators: the reference's Takes and Check. Condition: none. -/
namespace Go.Proofs.YtdchpkbpnfoknaaDoor
namespace Opr
open Sh Mat
set_option linter.unusedVariables false
set_option linter.unusedSimpArgs false
set_option maxRecDepth 8000
set_option maxHeartbeats 8000000
attribute [local irreducible] Ld St Nw Nn Lt LdS
section
variable {w w1 : World} {s : Slc} {L : List By}
theorem BrB {a b : ByteArray} {A B : Prop} (h1 : bl a = bl b → A) (h2 : ¬ bl a = bl b → B) : Br (a.toList == b.toList) A B := by rw [eqB]; exact Br.dec h1 h2
end
end Opr
end Go.Proofs.YtdchpkbpnfoknaaDoor

/- The formulas of 17 functions of the program, written by program (gen.py); the kernel checks each. No condition. -/
namespace Go.Proofs.YtdchpkbpnfoknaaDoor
open Sh
set_option linter.unusedVariables false
set_option maxRecDepth 100000

def C4 (w : World) (R : Option Addr → World → Prop) : Prop :=
  Calls Tryd.prog 4 #[] w fun e w' => ∃ r0 : Option Addr, e = .returned (.pointer r0) ∧ R r0 w'
theorem C4.mono {w : World} {R R' : Option Addr → World → Prop} (h : C4 w R) (hr : ∀ r0 w', R r0 w' → R' r0 w') : C4 w R' :=
  Calls.mono h fun _ _ ⟨r0, he, hR⟩ => ⟨r0, he, hr _ _ hR⟩
def CD19 (c1 : Addr) (u : Option Value) (w : World) (R : World → Prop) : Prop := CallD Tryd.prog 19 #[.pointer (some c1)] u w R
theorem CD19.mono {c1 : Addr} {u : Option Value} {w : World} {R R' : World → Prop} (h : CD19 c1 u w R) (hr : ∀ w', R w' → R' w') : CD19 c1 u w R' :=
  CallsD.mono h fun _ _ _ ⟨h1, h2, h3⟩ => ⟨h1, h2, hr _ h3⟩
def C20 (holds1 : Bool) (why2 : Int) (w : World) (R : World → Prop) (PR : Value → World → Prop) : Prop :=
  Calls Tryd.prog 20 #[.bool holds1, .int .i64 why2] w fun e w' => (e = .returned (.tuple #[]) ∧ R w') ∨ ∃ v, e = .panicked (onePanic v) ∧ PR v w'
theorem C20.mono {holds1 : Bool} {why2 : Int} {w : World} {R R' : World → Prop} {PR PR' : Value → World → Prop} (h : C20 holds1 why2 w R PR) (hr : ∀ w', R w' → R' w') (hp : ∀ v w', PR v w' → PR' v w') : C20 holds1 why2 w R' PR' :=
  Calls.mono h fun _ _ he => he.elim (fun ⟨he, hR⟩ => .inl ⟨he, hr _ hR⟩) fun ⟨v, he, hP⟩ => .inr ⟨v, he, hp _ _ hP⟩
def C21 (name1 : ByteArray) (w : World) (R : Bool → World → Prop) : Prop :=
  Calls Tryd.prog 21 #[.string name1] w fun e w' => ∃ r0 : Bool, e = .returned (.bool r0) ∧ R r0 w'
theorem C21.mono {name1 : ByteArray} {w : World} {R R' : Bool → World → Prop} (h : C21 name1 w R) (hr : ∀ r0 w', R r0 w' → R' r0 w') : C21 name1 w R' :=
  Calls.mono h fun _ _ ⟨r0, he, hR⟩ => ⟨r0, he, hr _ _ hR⟩
def C22 (x1 : ByteArray × Slc × ByteArray) (why2 : Int) (w : World) (R : (ByteArray × Slc × ByteArray) → World → Prop) (PR : Value → World → Prop) : Prop :=
  Calls Tryd.prog 22 #[.agg #[.string x1.1, Slc.v x1.2.1, .string x1.2.2], .int .i64 why2] w fun e w' => (∃ r0 : ByteArray × Slc × ByteArray, e = .returned (.agg #[.string r0.1, Slc.v r0.2.1, .string r0.2.2]) ∧ R r0 w') ∨ ∃ v, e = .panicked (onePanic v) ∧ PR v w'
theorem C22.mono {x1 : ByteArray × Slc × ByteArray} {why2 : Int} {w : World} {R R' : (ByteArray × Slc × ByteArray) → World → Prop} {PR PR' : Value → World → Prop} (h : C22 x1 why2 w R PR) (hr : ∀ r0 w', R r0 w' → R' r0 w') (hp : ∀ v w', PR v w' → PR' v w') : C22 x1 why2 w R' PR' :=
  Calls.mono h fun _ _ he => he.elim (fun ⟨r0, he, hR⟩ => .inl ⟨r0, he, hr _ _ hR⟩) fun ⟨v, he, hP⟩ => .inr ⟨v, he, hp _ _ hP⟩
def C24 (x1 : Option Addr) (w : World) (R : (Int × Int) → World → Prop) : Prop :=
  Calls Tryd.prog 24 #[.pointer x1] w fun e w' => ∃ r0 : Int × Int, e = .returned (.agg #[.int .i64 (r0.1), .int .i64 (r0.2)]) ∧ R r0 w'
theorem C24.mono {x1 : Option Addr} {w : World} {R R' : (Int × Int) → World → Prop} (h : C24 x1 w R) (hr : ∀ r0 w', R r0 w' → R' r0 w') : C24 x1 w R' :=
  Calls.mono h fun _ _ ⟨r0, he, hR⟩ => ⟨r0, he, hr _ _ hR⟩
def C25 (x1 : Slc) (why2 : Int) (w : World) (R : Slc → World → Prop) (PR : Value → World → Prop) : Prop :=
  Calls Tryd.prog 25 #[Slc.v x1, .int .i64 why2] w fun e w' => (∃ r0 : Slc, e = .returned (Slc.v r0) ∧ R r0 w') ∨ ∃ v, e = .panicked (onePanic v) ∧ PR v w'
theorem C25.mono {x1 : Slc} {why2 : Int} {w : World} {R R' : Slc → World → Prop} {PR PR' : Value → World → Prop} (h : C25 x1 why2 w R PR) (hr : ∀ r0 w', R r0 w' → R' r0 w') (hp : ∀ v w', PR v w' → PR' v w') : C25 x1 why2 w R' PR' :=
  Calls.mono h fun _ _ he => he.elim (fun ⟨r0, he, hR⟩ => .inl ⟨r0, he, hr _ _ hR⟩) fun ⟨v, he, hP⟩ => .inr ⟨v, he, hp _ _ hP⟩
def C26 (o1 : ByteArray × Slc × ByteArray) (w : World) (R : Slc → Int → World → Prop) : Prop :=
  Calls Tryd.prog 26 #[.agg #[.string o1.1, Slc.v o1.2.1, .string o1.2.2]] w fun e w' => ∃ r0 : Slc, ∃ r1 : Int, e = .returned (.tuple #[Slc.v r0, .int .i64 r1]) ∧ R r0 r1 w'
theorem C26.mono {o1 : ByteArray × Slc × ByteArray} {w : World} {R R' : Slc → Int → World → Prop} (h : C26 o1 w R) (hr : ∀ r0 r1 w', R r0 r1 w' → R' r0 r1 w') : C26 o1 w R' :=
  Calls.mono h fun _ _ ⟨r0, r1, he, hR⟩ => ⟨r0, r1, he, hr _ _ _ hR⟩
def C47 (p1 : Option Addr) (s2 : Int × Int × Int × Int × Int × Int × Int) (w : World) (R : World → Prop) : Prop :=
  Calls Tryd.prog 47 #[.pointer p1, .agg #[.int .i64 (s2.1), .int .i64 (s2.2.1), .int .i64 (s2.2.2.1), .int .i64 (s2.2.2.2.1), .int .i64 (s2.2.2.2.2.1), .int .i64 (s2.2.2.2.2.2.1), .int .i64 (s2.2.2.2.2.2.2)]] w fun e w' => e = .returned (.tuple #[]) ∧ R w'
theorem C47.mono {p1 : Option Addr} {s2 : Int × Int × Int × Int × Int × Int × Int} {w : World} {R R' : World → Prop} (h : C47 p1 s2 w R) (hr : ∀ w', R w' → R' w') : C47 p1 s2 w R' :=
  Calls.mono h fun _ _ ⟨he, hR⟩ => ⟨he, hr _ hR⟩
def C77 (x1 : Int × Int) (why2 : Int) (w : World) (R : (Int × Int) → World → Prop) (PR : Value → World → Prop) : Prop :=
  Calls Tryd.prog 77 #[.agg #[.int .i64 (x1.1), .int .i64 (x1.2)], .int .i64 why2] w fun e w' => (∃ r0 : Int × Int, e = .returned (.agg #[.int .i64 (r0.1), .int .i64 (r0.2)]) ∧ R r0 w') ∨ ∃ v, e = .panicked (onePanic v) ∧ PR v w'
theorem C77.mono {x1 : Int × Int} {why2 : Int} {w : World} {R R' : (Int × Int) → World → Prop} {PR PR' : Value → World → Prop} (h : C77 x1 why2 w R PR) (hr : ∀ r0 w', R r0 w' → R' r0 w') (hp : ∀ v w', PR v w' → PR' v w') : C77 x1 why2 w R' PR' :=
  Calls.mono h fun _ _ he => he.elim (fun ⟨r0, he, hR⟩ => .inl ⟨r0, he, hr _ _ hR⟩) fun ⟨v, he, hP⟩ => .inr ⟨v, he, hp _ _ hP⟩
def C64 (p1 : Option Addr) (x2 : Int) (y3 : Int) (w : World) (R : (Int × Int) → World → Prop) (PR : Value → World → Prop) : Prop :=
  Calls Tryd.prog 64 #[.pointer p1, .int .i64 x2, .int .i64 y3] w fun e w' => (∃ r0 : Int × Int, e = .returned (.agg #[.int .i64 (r0.1), .int .i64 (r0.2)]) ∧ R r0 w') ∨ ∃ v, e = .panicked (onePanic v) ∧ PR v w'
theorem C64.mono {p1 : Option Addr} {x2 : Int} {y3 : Int} {w : World} {R R' : (Int × Int) → World → Prop} {PR PR' : Value → World → Prop} (h : C64 p1 x2 y3 w R PR) (hr : ∀ r0 w', R r0 w' → R' r0 w') (hp : ∀ v w', PR v w' → PR' v w') : C64 p1 x2 y3 w R' PR' :=
  Calls.mono h fun _ _ he => he.elim (fun ⟨r0, he, hR⟩ => .inl ⟨r0, he, hr _ _ hR⟩) fun ⟨v, he, hP⟩ => .inr ⟨v, he, hp _ _ hP⟩
def C48 (p1 : Option Addr) (w : World) (R : (Int × Int) → World → Prop) (PR : Value → World → Prop) : Prop :=
  Calls Tryd.prog 48 #[.pointer p1] w fun e w' => (∃ r0 : Int × Int, e = .returned (.agg #[.int .i64 (r0.1), .int .i64 (r0.2)]) ∧ R r0 w') ∨ ∃ v, e = .panicked (onePanic v) ∧ PR v w'
theorem C48.mono {p1 : Option Addr} {w : World} {R R' : (Int × Int) → World → Prop} {PR PR' : Value → World → Prop} (h : C48 p1 w R PR) (hr : ∀ r0 w', R r0 w' → R' r0 w') (hp : ∀ v w', PR v w' → PR' v w') : C48 p1 w R' PR' :=
  Calls.mono h fun _ _ he => he.elim (fun ⟨r0, he, hR⟩ => .inl ⟨r0, he, hr _ _ hR⟩) fun ⟨v, he, hP⟩ => .inr ⟨v, he, hp _ _ hP⟩
def C49 (p1 : Option Addr) (a2 : Int × Int) (b3 : Int × Int) (c4 : Int × Int) (w : World) (R : World → Prop) : Prop :=
  Calls Tryd.prog 49 #[.pointer p1, .agg #[.int .i64 (a2.1), .int .i64 (a2.2)], .agg #[.int .i64 (b3.1), .int .i64 (b3.2)], .agg #[.int .i64 (c4.1), .int .i64 (c4.2)]] w fun e w' => e = .returned (.tuple #[]) ∧ R w'
theorem C49.mono {p1 : Option Addr} {a2 : Int × Int} {b3 : Int × Int} {c4 : Int × Int} {w : World} {R R' : World → Prop} (h : C49 p1 a2 b3 c4 w R) (hr : ∀ w', R w' → R' w') : C49 p1 a2 b3 c4 w R' :=
  Calls.mono h fun _ _ ⟨he, hR⟩ => ⟨he, hr _ hR⟩
def C65 (x1 : Int) (why2 : Int) (w : World) (R : Int → World → Prop) (PR : Value → World → Prop) : Prop :=
  Calls Tryd.prog 65 #[.int .i64 x1, .int .i64 why2] w fun e w' => (∃ r0 : Int, e = .returned (.int .i64 r0) ∧ R r0 w') ∨ ∃ v, e = .panicked (onePanic v) ∧ PR v w'
theorem C65.mono {x1 : Int} {why2 : Int} {w : World} {R R' : Int → World → Prop} {PR PR' : Value → World → Prop} (h : C65 x1 why2 w R PR) (hr : ∀ r0 w', R r0 w' → R' r0 w') (hp : ∀ v w', PR v w' → PR' v w') : C65 x1 why2 w R' PR' :=
  Calls.mono h fun _ _ he => he.elim (fun ⟨r0, he, hR⟩ => .inl ⟨r0, he, hr _ _ hR⟩) fun ⟨v, he, hP⟩ => .inr ⟨v, he, hp _ _ hP⟩
def C50 (p1 : Option Addr) (w : World) (R : World → Prop) (PR : Value → World → Prop) : Prop :=
  Calls Tryd.prog 50 #[.pointer p1] w fun e w' => (e = .returned (.tuple #[]) ∧ R w') ∨ ∃ v, e = .panicked (onePanic v) ∧ PR v w'
theorem C50.mono {p1 : Option Addr} {w : World} {R R' : World → Prop} {PR PR' : Value → World → Prop} (h : C50 p1 w R PR) (hr : ∀ w', R w' → R' w') (hp : ∀ v w', PR v w' → PR' v w') : C50 p1 w R' PR' :=
  Calls.mono h fun _ _ he => he.elim (fun ⟨he, hR⟩ => .inl ⟨he, hr _ hR⟩) fun ⟨v, he, hP⟩ => .inr ⟨v, he, hp _ _ hP⟩
def C27 (p1 : Option Addr) (name2 : ByteArray) (w : World) (R : World → Prop) (PR : Value → World → Prop) : Prop :=
  Calls Tryd.prog 27 #[.pointer p1, .string name2] w fun e w' => (e = .returned (.tuple #[]) ∧ R w') ∨ ∃ v, e = .panicked (onePanic v) ∧ PR v w'
theorem C27.mono {p1 : Option Addr} {name2 : ByteArray} {w : World} {R R' : World → Prop} {PR PR' : Value → World → Prop} (h : C27 p1 name2 w R PR) (hr : ∀ w', R w' → R' w') (hp : ∀ v w', PR v w' → PR' v w') : C27 p1 name2 w R' PR' :=
  Calls.mono h fun _ _ he => he.elim (fun ⟨he, hR⟩ => .inl ⟨he, hr _ hR⟩) fun ⟨v, he, hP⟩ => .inr ⟨v, he, hp _ _ hP⟩
def C5 (x1 : Option Addr) (o2 : ByteArray × Slc × ByteArray) (m3 : Int × Int × Int × Int × Int × Int) (w : World) (R : Int → World → Prop) : Prop :=
  Calls Tryd.prog 5 #[.pointer x1, .agg #[.string o2.1, Slc.v o2.2.1, .string o2.2.2], .agg #[.int .i64 (m3.1), .int .i64 (m3.2.1), .int .i64 (m3.2.2.1), .int .i64 (m3.2.2.2.1), .int .i64 (m3.2.2.2.2.1), .int .i64 (m3.2.2.2.2.2)]] w fun e w' => ∃ r0 : Int, e = .returned (.int .i64 r0) ∧ R r0 w'
theorem C5.mono {x1 : Option Addr} {o2 : ByteArray × Slc × ByteArray} {m3 : Int × Int × Int × Int × Int × Int} {w : World} {R R' : Int → World → Prop} (h : C5 x1 o2 m3 w R) (hr : ∀ r0 w', R r0 w' → R' r0 w') : C5 x1 o2 m3 w R' :=
  Calls.mono h fun _ _ ⟨r0, he, hR⟩ => ⟨r0, he, hr _ _ hR⟩

/-- foliant/path.New -/
def S4 (w : World) (R : Option Addr → World → Prop) : Prop :=
  Nw w (.cells #[Slc.v ((⟨none, 0, 0⟩ : Slc)), .int .i64 0, .int .i64 0, .bool false] 68) fun vw1 =>
  R (some (⟨w.heap.size, 0, none⟩ : Addr)) vw1
def pl4 : Plan := (.seq (.reg .seq) (.seq (.reg .seq) .leaf))
set_option maxRecDepth 100000 in
theorem T4 (w : World) (R : Option Addr → World → Prop) (h : S4 w R) : C4 w R := by
  have e : fnT Tryd.prog ⟨FF, MAY, (fun _ _ => False)⟩ pl4 Tryd.f4 [] w [(.one .ptr)] (fun s w => R s w) = S4 w R := by kernel_rfl
  exact (fn_calls okF okM Tryd.func4 (by kernel_rfl) (by kernel_rfl) (e.mpr h)).mono fun _ _ ⟨s, he, hR⟩ => ⟨s, he, hR⟩

/-- (*foliant/path.Path).Do$1 -/
def S19_nil (c1 : Addr) (w : World) (R : World → Prop) : Prop :=
  R w
def pl19_nil : Plan := (.block (.seq (.reg .seq) (.cond (.reg .seq) (.seq (.reg .seq) (.cond (.seq (.reg .seq) (.reg .seq)) (.seq (.reg .seq) (.reg .seq)))))))
set_option maxRecDepth 100000 in
theorem T19_nil (c1 : Addr) (w : World) (R : World → Prop) (h : S19_nil c1 w R) : CD19 c1 none w R := by
  have e : fnTS Tryd.prog FF MAY pl19_nil Tryd.f19 [.pointer (some c1)] none w R = S19_nil c1 w R := by kernel_rfl
  exact fnS_calls okF okM Tryd.func19 (by kernel_rfl) (by kernel_rfl) (e.mpr h)

/-- (*foliant/path.Path).Do$1 -/
def S19_T70 (c1 : Addr) (u2 : Int) (w : World) (R : World → Prop) : Prop :=
  Nw w (.cells #[.int .i64 0] 70) fun vw3 =>
  St vw3 (⟨w.heap.size, 0, none⟩ : Addr) (.int .i64 u2) fun vw4 =>
  Ld vw4 (⟨w.heap.size, 0, none⟩ : Addr) (Value.int .i64) fun (x5 : Int) =>
  St vw4 c1 (.int .i64 x5) fun vw6 =>
  R vw6
def pl19_T70 : Plan := (.block (.seq (.reg .seq) (.cond (.reg .seq) (.seq (.reg .seq) (.cond (.seq (.reg .seq) (.reg .seq)) (.seq (.reg .seq) (.reg .seq)))))))
set_option maxRecDepth 100000 in
theorem T19_T70 (c1 : Addr) (u2 : Int) (w : World) (R : World → Prop) (h : S19_T70 c1 u2 w R) : CD19 c1 (some (.iface 70 (.agg #[.int .i64 u2]))) w R := by
  have e : fnTS Tryd.prog FF MAY pl19_T70 Tryd.f19 [.pointer (some c1)] (some (.iface 70 (.agg #[.int .i64 u2]))) w R = S19_T70 c1 u2 w R := by kernel_rfl
  exact fnS_calls okF okM Tryd.func19 (by kernel_rfl) (by kernel_rfl) (e.mpr h)

/-- foliant/path.need -/
def S20 (holds1 : Bool) (why2 : Int) (w : World) (R : World → Prop) (PR : Value → World → Prop) : Prop :=
  Br (!holds1) (PR (.iface 70 (.agg #[.int .i64 why2])) w) (R w)
def pl20 : Plan := (.seq (.reg .seq) (.cond (.reg .seq) .leaf))
set_option maxRecDepth 100000 in
theorem T20 (holds1 : Bool) (why2 : Int) (w : World) (R : World → Prop) (PR : Value → World → Prop) (h : S20 holds1 why2 w R PR) : C20 holds1 why2 w R PR := by
  have e : fnT Tryd.prog ⟨FF, MAY, PR⟩ pl20 Tryd.f20 [.bool holds1, .int .i64 why2] w [] (fun _ w => R w) = S20 holds1 why2 w R PR := by kernel_rfl
  exact (fn_callsP okF okM Tryd.func20 (by kernel_rfl) (by kernel_rfl) (e.mpr h)).mono fun _ _ he => he.elim (fun ⟨_, he, hR⟩ => .inl ⟨he, hR⟩) .inr

/-- foliant/path.knows -/
def S21 (name1 : ByteArray) (w : World) (R : Bool → World → Prop) : Prop :=
  Nw w (.cells #[.string ((⟨#[109]⟩ : ByteArray)), .string ((⟨#[108]⟩ : ByteArray)), .string ((⟨#[99]⟩ : ByteArray)), .string ((⟨#[118]⟩ : ByteArray)), .string ((⟨#[121]⟩ : ByteArray)), .string ((⟨#[104]⟩ : ByteArray)), .string ((⟨#[114, 101]⟩ : ByteArray)), .string ((⟨#[87]⟩ : ByteArray)), .string ((⟨#[87, 42]⟩ : ByteArray))] 9) fun vw2 =>
  C43 (⟨some ⟨w.heap.size, 0, none⟩, 9, 9⟩ : Slc) name1 vw2 fun r3 vw4 =>
    R r3 vw4
def pl21 : Plan := (.seq (.reg .seq) (.seq (.reg .seq) .leaf))
set_option maxRecDepth 100000 in
theorem T21 (name1 : ByteArray) (w : World) (R : Bool → World → Prop) (h : S21 name1 w R) : C21 name1 w R := by
  have e : fnT Tryd.prog ⟨FF, MAY, (fun _ _ => False)⟩ pl21 Tryd.f21 [.string name1] w [(.one .bool)] (fun s w => R s w) = S21 name1 w R := by kernel_rfl
  exact (fn_calls okF okM Tryd.func21 (by kernel_rfl) (by kernel_rfl) (e.mpr h)).mono fun _ _ ⟨s, he, hR⟩ => ⟨s, he, hR⟩

/-- foliant/path.must[foliant/api.Op] -/
def S22 (x1 : ByteArray × Slc × ByteArray) (why2 : Int) (w : World) (R : (ByteArray × Slc × ByteArray) → World → Prop) (PR : Value → World → Prop) : Prop :=
  Nw w (.cells #[.string x1.1, Slc.v x1.2.1, .string x1.2.2] 31) fun vw3 =>
  Nw vw3 (.cells #[.string ((⟨#[]⟩ : ByteArray)), Slc.v ((⟨none, 0, 0⟩ : Slc)), .string ((⟨#[]⟩ : ByteArray))] 31) fun vw4 =>
  C20 (why2 == 0) why2 vw4 (fun vw5 =>
    Ld vw5 (⟨w.heap.size, 0, none⟩ : Addr) Value.string fun (x6 : ByteArray) =>
    Ld vw5 ((⟨w.heap.size, 0, none⟩ : Addr).add 1) Slc.v fun (x7 : Slc) =>
    Ld vw5 ((⟨w.heap.size, 0, none⟩ : Addr).add 2) Value.string fun (x8 : ByteArray) =>
    St vw5 (⟨vw3.heap.size, 0, none⟩ : Addr) (.string x6) fun vw9 =>
    St vw9 ((⟨vw3.heap.size, 0, none⟩ : Addr).add 1) (Slc.v x7) fun vw10 =>
    St vw10 ((⟨vw3.heap.size, 0, none⟩ : Addr).add 2) (.string x8) fun vw11 =>
    Ld vw11 (⟨vw3.heap.size, 0, none⟩ : Addr) Value.string fun (x12 : ByteArray) =>
    Ld vw11 ((⟨vw3.heap.size, 0, none⟩ : Addr).add 1) Slc.v fun (x13 : Slc) =>
    Ld vw11 ((⟨vw3.heap.size, 0, none⟩ : Addr).add 2) Value.string fun (x14 : ByteArray) =>
    R (x12, x13, x14) vw11) PR
def pl22 : Plan := (.seq (.reg .seq) (.seq (.reg .seq) (.seq (.reg .seq) .leaf)))
set_option maxRecDepth 100000 in
theorem T22 (x1 : ByteArray × Slc × ByteArray) (why2 : Int) (w : World) (R : (ByteArray × Slc × ByteArray) → World → Prop) (PR : Value → World → Prop) (h : S22 x1 why2 w R PR) : C22 (x1.1, x1.2.1, x1.2.2) why2 w R PR := by
  have e : fnT Tryd.prog ⟨FF, MAY, PR⟩ pl22 Tryd.f22 [.agg #[.string x1.1, Slc.v x1.2.1, .string x1.2.2], .int .i64 why2] w [(.agg [.str, .slc, .str])] (fun s w => R s w) = S22 x1 why2 w R PR := by kernel_rfl
  exact (fn_callsP okF okM Tryd.func22 (by kernel_rfl) (by kernel_rfl) (e.mpr h)).mono fun _ _ he => he.elim (fun ⟨s, he, hR⟩ => .inl ⟨s, he, hR⟩) .inr

/-- (*foliant/path.Path).current -/
def S24 (x1 : Option Addr) (w : World) (R : (Int × Int) → World → Prop) : Prop :=
  Nw w (.cells #[.int .i64 0, .int .i64 0] 36) fun vw2 =>
  ∃ vS29 : World → Prop, vS29 vw2.drew ∧ Nn x1 fun a30 =>
  LdS vS29 a30 Slc.v fun (x31 : Slc) =>
  Nn x1 fun a32 =>
  LdS vS29 a32 Slc.v fun (x33 : Slc) =>
  0 ≤ (IntKind.i64.wrap (((x33.len : Nat) : Int) - 1)) ∧ (IntKind.i64.wrap (((x33.len : Nat) : Int) - 1)) < (x31.len : Nat) ∧ Nn x31.p fun a34 =>
  LdS vS29 (a34.add ((IntKind.i64.wrap (((x33.len : Nat) : Int) - 1)).toNat * 7)) (Value.int .i64) fun (x35 : Int) =>
  LdS vS29 ((a34.add ((IntKind.i64.wrap (((x33.len : Nat) : Int) - 1)).toNat * 7)).add 1) (Value.int .i64) fun (x36 : Int) =>
  LdS vS29 ((a34.add ((IntKind.i64.wrap (((x33.len : Nat) : Int) - 1)).toNat * 7)).add 2) (Value.int .i64) fun (x37 : Int) =>
  LdS vS29 ((a34.add ((IntKind.i64.wrap (((x33.len : Nat) : Int) - 1)).toNat * 7)).add 3) (Value.int .i64) fun (x38 : Int) =>
  LdS vS29 ((a34.add ((IntKind.i64.wrap (((x33.len : Nat) : Int) - 1)).toNat * 7)).add 4) (Value.int .i64) fun (x39 : Int) =>
  LdS vS29 ((a34.add ((IntKind.i64.wrap (((x33.len : Nat) : Int) - 1)).toNat * 7)).add 5) (Value.int .i64) fun (x40 : Int) =>
  LdS vS29 ((a34.add ((IntKind.i64.wrap (((x33.len : Nat) : Int) - 1)).toNat * 7)).add 6) (Value.int .i64) fun (x41 : Int) =>
  Nw vw2.drew (.cells #[.int .i64 0, .int .i64 0, .int .i64 0, .int .i64 0, .int .i64 0, .int .i64 0, .int .i64 0] 38) fun vw42 =>
  vS29 vw42 ∧ St vw42 (⟨vw2.drew.heap.size, 0, none⟩ : Addr) (.int .i64 x35) fun vw43 =>
  St vw43 ((⟨vw2.drew.heap.size, 0, none⟩ : Addr).add 1) (.int .i64 x36) fun vw44 =>
  St vw44 ((⟨vw2.drew.heap.size, 0, none⟩ : Addr).add 2) (.int .i64 x37) fun vw45 =>
  St vw45 ((⟨vw2.drew.heap.size, 0, none⟩ : Addr).add 3) (.int .i64 x38) fun vw46 =>
  St vw46 ((⟨vw2.drew.heap.size, 0, none⟩ : Addr).add 4) (.int .i64 x39) fun vw47 =>
  St vw47 ((⟨vw2.drew.heap.size, 0, none⟩ : Addr).add 5) (.int .i64 x40) fun vw48 =>
  St vw48 ((⟨vw2.drew.heap.size, 0, none⟩ : Addr).add 6) (.int .i64 x41) fun vw49 =>
  Ld vw49 (⟨vw2.drew.heap.size, 0, none⟩ : Addr) (Value.int .i64) fun (x50 : Int) =>
  Br (x50 != 4) (Ld vw49 ((⟨vw2.drew.heap.size, 0, none⟩ : Addr).add 5) (Value.int .i64) fun (x51 : Int) =>
    Ld vw49 (((⟨vw2.drew.heap.size, 0, none⟩ : Addr).add 5).add 1) (Value.int .i64) fun (x52 : Int) =>
    St vw49 (⟨w.heap.size, 0, none⟩ : Addr) (.int .i64 x51) fun vw53 =>
    St vw53 ((⟨w.heap.size, 0, none⟩ : Addr).add 1) (.int .i64 x52) fun vw54 =>
    Ld vw54 (⟨w.heap.size, 0, none⟩ : Addr) (Value.int .i64) fun (x55 : Int) =>
    Ld vw54 ((⟨w.heap.size, 0, none⟩ : Addr).add 1) (Value.int .i64) fun (x56 : Int) =>
    R (x55, x56) vw54) (Nn x1 fun a57 =>
    Ld vw49 (a57.add 1) (Value.int .i64) fun (x58 : Int) =>
    Ld vw49 ((a57.add 1).add 1) (Value.int .i64) fun (x59 : Int) =>
    St vw49 (⟨w.heap.size, 0, none⟩ : Addr) (.int .i64 x58) fun vw60 =>
    St vw60 ((⟨w.heap.size, 0, none⟩ : Addr).add 1) (.int .i64 x59) fun vw61 =>
    Ld vw61 (⟨w.heap.size, 0, none⟩ : Addr) (Value.int .i64) fun (x62 : Int) =>
    Ld vw61 ((⟨w.heap.size, 0, none⟩ : Addr).add 1) (Value.int .i64) fun (x63 : Int) =>
    R (x62, x63) vw61)
def pl24 : Plan := (.seq (.reg .seq) (.seq (.seq (.reg (.held [13] (.take 0 (.take 1 (.take 2 (.take 3 (.take 4 (.take 5 (.take 6 (.take 7 (.take 8 (.take 9 (.take 10 (.take 11 (.eff 12 none (.eff 13 (some []) .done)))))))))))))))) (.seq (.reg .seq) (.cond (.seq (.reg .seq) .leaf) .leaf))) (.seq (.reg .seq) .leaf)))
set_option maxRecDepth 100000 in
theorem T24 (x1 : Option Addr) (w : World) (R : (Int × Int) → World → Prop) (h : S24 x1 w R) : C24 x1 w R := by
  have e : fnT Tryd.prog ⟨FF, MAY, (fun _ _ => False)⟩ pl24 Tryd.f24 [.pointer x1] w [(.agg [(.int .i64), (.int .i64)])] (fun s w => R s w) = S24 x1 w R := by kernel_rfl
  exact (fn_calls okF okM Tryd.func24 (by kernel_rfl) (by kernel_rfl) (e.mpr h)).mono fun _ _ ⟨s, he, hR⟩ => ⟨s, he, hR⟩

/-- foliant/path.must[[]int64] -/
def S25 (x1 : Slc) (why2 : Int) (w : World) (R : Slc → World → Prop) (PR : Value → World → Prop) : Prop :=
  C20 (why2 == 0) why2 w (fun vw3 =>
    R x1 vw3) PR
def pl25 : Plan := (.seq (.reg .seq) (.seq (.reg .seq) (.seq (.reg .seq) .leaf)))
set_option maxRecDepth 100000 in
theorem T25 (x1 : Slc) (why2 : Int) (w : World) (R : Slc → World → Prop) (PR : Value → World → Prop) (h : S25 x1 why2 w R PR) : C25 x1 why2 w R PR := by
  have e : fnT Tryd.prog ⟨FF, MAY, PR⟩ pl25 Tryd.f25 [Slc.v x1, .int .i64 why2] w [(.one .slc)] (fun s w => R s w) = S25 x1 why2 w R PR := by kernel_rfl
  exact (fn_callsP okF okM Tryd.func25 (by kernel_rfl) (by kernel_rfl) (e.mpr h)).mono fun _ _ he => he.elim (fun ⟨s, he, hR⟩ => .inl ⟨s, he, hR⟩) .inr

def S26L1 (x3 : Slc) (R : Slc → Int → World → Prop) (I6 : (Slc × Int) → World → Prop) (s4 : Slc × Int) (vw5 : World) : Prop :=
  Br (decide (s4.2 < ((x3.len : Nat) : Int))) (0 ≤ s4.2 ∧ s4.2 < (x3.len : Nat) ∧ Nn x3.p fun a7 =>
    Ld vw5 (a7.add ((s4.2).toNat * 6)) (Value.int .i64) fun (x8 : Int) =>
    Ld vw5 ((a7.add ((s4.2).toNat * 6)).add 1) (Value.int .i64) fun (x9 : Int) =>
    Ld vw5 ((a7.add ((s4.2).toNat * 6)).add 2) (Value.int .i64) fun (x10 : Int) =>
    Ld vw5 ((a7.add ((s4.2).toNat * 6)).add 3) Value.string fun (x11 : ByteArray) =>
    Ld vw5 ((a7.add ((s4.2).toNat * 6)).add 4) Slc.v fun (x12 : Slc) =>
    Ld vw5 ((a7.add ((s4.2).toNat * 6)).add 5) Slc.v fun (x13 : Slc) =>
    Nw vw5 (.cells #[.int .i64 0, .int .i64 0, .int .i64 0, .string ((⟨#[]⟩ : ByteArray)), Slc.v ((⟨none, 0, 0⟩ : Slc)), Slc.v ((⟨none, 0, 0⟩ : Slc))] 64) fun vw14 =>
    St vw14 (⟨vw5.heap.size, 0, none⟩ : Addr) (.int .i64 x8) fun vw15 =>
    St vw15 ((⟨vw5.heap.size, 0, none⟩ : Addr).add 1) (.int .i64 x9) fun vw16 =>
    St vw16 ((⟨vw5.heap.size, 0, none⟩ : Addr).add 2) (.int .i64 x10) fun vw17 =>
    St vw17 ((⟨vw5.heap.size, 0, none⟩ : Addr).add 3) (.string x11) fun vw18 =>
    St vw18 ((⟨vw5.heap.size, 0, none⟩ : Addr).add 4) (Slc.v x12) fun vw19 =>
    St vw19 ((⟨vw5.heap.size, 0, none⟩ : Addr).add 5) (Slc.v x13) fun vw20 =>
    Ld vw20 (⟨vw5.heap.size, 0, none⟩ : Addr) (Value.int .i64) fun (x23 : Int) =>
    Br (x23 != 2) (Ld vw20 (⟨vw5.heap.size, 0, none⟩ : Addr) (Value.int .i64) fun (x24 : Int) =>
      Br (x24 != 3) (R (⟨none, 0, 0⟩ : Slc) 10 vw20) (Ld vw20 (⟨vw5.heap.size, 0, none⟩ : Addr) (Value.int .i64) fun (x25 : Int) =>
        Ld vw20 ((⟨vw5.heap.size, 0, none⟩ : Addr).add 1) (Value.int .i64) fun (x26 : Int) =>
        Ld vw20 ((⟨vw5.heap.size, 0, none⟩ : Addr).add 2) (Value.int .i64) fun (x27 : Int) =>
        Ld vw20 ((⟨vw5.heap.size, 0, none⟩ : Addr).add 3) Value.string fun (x28 : ByteArray) =>
        Ld vw20 ((⟨vw5.heap.size, 0, none⟩ : Addr).add 4) Slc.v fun (x29 : Slc) =>
        Ld vw20 ((⟨vw5.heap.size, 0, none⟩ : Addr).add 5) Slc.v fun (x30 : Slc) =>
        C46 (x25, x26, x27, x28, x29, x30) vw20 fun r31 r32 vw33 =>
          Br (!r32) (R (⟨none, 0, 0⟩ : Slc) 2 vw33) (Nw vw33 (.cells #[.int .i64 r31] 2) fun vw34 =>
            Rn Tryd.prog (Builtin.append_ #[55, 55] 55 #[Slc.v s4.1, Slc.v ((⟨some ⟨vw33.heap.size, 0, none⟩, 1, 1⟩ : Slc))]) vw34 Slc.v fun (x35 : Slc) vw36 =>
            I6 (x35, IntKind.i64.wrap (s4.2 + 1)) vw36))) (Ld vw20 (⟨vw5.heap.size, 0, none⟩ : Addr) (Value.int .i64) fun (x37 : Int) =>
      Ld vw20 ((⟨vw5.heap.size, 0, none⟩ : Addr).add 1) (Value.int .i64) fun (x38 : Int) =>
      Ld vw20 ((⟨vw5.heap.size, 0, none⟩ : Addr).add 2) (Value.int .i64) fun (x39 : Int) =>
      Ld vw20 ((⟨vw5.heap.size, 0, none⟩ : Addr).add 3) Value.string fun (x40 : ByteArray) =>
      Ld vw20 ((⟨vw5.heap.size, 0, none⟩ : Addr).add 4) Slc.v fun (x41 : Slc) =>
      Ld vw20 ((⟨vw5.heap.size, 0, none⟩ : Addr).add 5) Slc.v fun (x42 : Slc) =>
      C46 (x37, x38, x39, x40, x41, x42) vw20 fun r43 r44 vw45 =>
        Br (!r44) (R (⟨none, 0, 0⟩ : Slc) 2 vw45) (Nw vw45 (.cells #[.int .i64 r43] 2) fun vw46 =>
          Rn Tryd.prog (Builtin.append_ #[55, 55] 55 #[Slc.v s4.1, Slc.v ((⟨some ⟨vw45.heap.size, 0, none⟩, 1, 1⟩ : Slc))]) vw46 Slc.v fun (x47 : Slc) vw48 =>
          I6 (x47, IntKind.i64.wrap (s4.2 + 1)) vw48))) (R s4.1 0 vw5)
/-- foliant/ops.Nums -/
def S26 (o1 : ByteArray × Slc × ByteArray) (w : World) (R : Slc → Int → World → Prop) : Prop :=
  Nw w (.cells #[.string o1.1, Slc.v o1.2.1, .string o1.2.2] 31) fun vw2 =>
  Ld vw2 ((⟨w.heap.size, 0, none⟩ : Addr).add 1) Slc.v fun (x3 : Slc) =>
  Lp (σ := Slc × Int) (S26L1 x3 R) ((⟨none, 0, 0⟩ : Slc), 0) vw2
def pl26 : Plan := (.seq (.reg .seq) (.seq (.reg .seq) (.seq (.seq (.reg .seq) (.block (.loop [(4, (.one .slc)), (12, (.one (.int .i64)))] [10, 11] (.seq (.reg .seq) (.seq (.cond .leaf .leaf) (.seq (.block (.seq (.reg .seq) (.seq (.seq (.reg .seq) (.cond (.seq (.reg .seq) .leaf) .leaf)) (.seq (.reg .seq) (.seq (.seq (.reg .seq) (.cond (.seq (.reg .seq) .leaf) .leaf)) (.reg .seq)))))) (.reg .seq))))))) (.seq (.reg .seq) .leaf))))
set_option maxRecDepth 100000 in
theorem T26 (o1 : ByteArray × Slc × ByteArray) (w : World) (R : Slc → Int → World → Prop) (h : S26 o1 w R) : C26 (o1.1, o1.2.1, o1.2.2) w R := by
  have e : fnT Tryd.prog ⟨FF, MAY, (fun _ _ => False)⟩ pl26 Tryd.f26 [.agg #[.string o1.1, Slc.v o1.2.1, .string o1.2.2]] w [(.one .slc), (.one (.int .i64))] (fun s w => R s.1 s.2 w) = S26 o1 w R := by kernel_rfl
  exact (fn_calls okF okM Tryd.func26 (by kernel_rfl) (by kernel_rfl) (e.mpr h)).mono fun _ _ ⟨s, he, hR⟩ => ⟨s.1, s.2, he, hR⟩

/-- (*foliant/path.pen).put -/
def S47 (p1 : Option Addr) (s2 : Int × Int × Int × Int × Int × Int × Int) (w : World) (R : World → Prop) : Prop :=
  Nw w (.cells #[.int .i64 (s2.1), .int .i64 (s2.2.1), .int .i64 (s2.2.2.1), .int .i64 (s2.2.2.2.1), .int .i64 (s2.2.2.2.2.1), .int .i64 (s2.2.2.2.2.2.1), .int .i64 (s2.2.2.2.2.2.2)] 38) fun vw3 =>
  ∃ vS4 : World → Prop, vS4 vw3.drew ∧ Nn p1 fun a5 =>
  LdS vS4 (a5.add 9) Slc.v fun (x6 : Slc) =>
  LdS vS4 (⟨w.heap.size, 0, none⟩ : Addr) (Value.int .i64) fun (x7 : Int) =>
  LdS vS4 ((⟨w.heap.size, 0, none⟩ : Addr).add 1) (Value.int .i64) fun (x8 : Int) =>
  LdS vS4 ((⟨w.heap.size, 0, none⟩ : Addr).add 2) (Value.int .i64) fun (x9 : Int) =>
  LdS vS4 ((⟨w.heap.size, 0, none⟩ : Addr).add 3) (Value.int .i64) fun (x10 : Int) =>
  LdS vS4 ((⟨w.heap.size, 0, none⟩ : Addr).add 4) (Value.int .i64) fun (x11 : Int) =>
  LdS vS4 ((⟨w.heap.size, 0, none⟩ : Addr).add 5) (Value.int .i64) fun (x12 : Int) =>
  LdS vS4 ((⟨w.heap.size, 0, none⟩ : Addr).add 6) (Value.int .i64) fun (x13 : Int) =>
  Nw vw3.drew (.cells #[.int .i64 x7, .int .i64 x8, .int .i64 x9, .int .i64 x10, .int .i64 x11, .int .i64 x12, .int .i64 x13] 38) fun vw14 =>
  vS4 vw14 ∧ Rn Tryd.prog (Builtin.append_ #[33, 33] 33 #[Slc.v x6, Slc.v ((⟨some ⟨vw3.drew.heap.size, 0, none⟩, 1, 1⟩ : Slc))]) vw14 Slc.v fun (x15 : Slc) vw16 =>
  Nn p1 fun a17 =>
  St vw16 (a17.add 9) (Slc.v x15) fun vw18 =>
  R vw18
def pl47 : Plan := (.seq (.reg .seq) (.reg (.held [7] (.take 0 (.take 1 (.take 2 (.take 3 (.take 4 (.take 5 (.eff 6 none (.eff 7 (some [10]) (.take 8 (.take 9 (.eff 10 (some []) .done))))))))))))))
set_option maxRecDepth 100000 in
theorem T47 (p1 : Option Addr) (s2 : Int × Int × Int × Int × Int × Int × Int) (w : World) (R : World → Prop) (h : S47 p1 s2 w R) : C47 p1 (s2.1, s2.2.1, s2.2.2.1, s2.2.2.2.1, s2.2.2.2.2.1, s2.2.2.2.2.2.1, s2.2.2.2.2.2.2) w R := by
  have e : fnT Tryd.prog ⟨FF, MAY, (fun _ _ => False)⟩ pl47 Tryd.f47 [.pointer p1, .agg #[.int .i64 (s2.1), .int .i64 (s2.2.1), .int .i64 (s2.2.2.1), .int .i64 (s2.2.2.2.1), .int .i64 (s2.2.2.2.2.1), .int .i64 (s2.2.2.2.2.2.1), .int .i64 (s2.2.2.2.2.2.2)]] w [] (fun _ w => R w) = S47 p1 s2 w R := by kernel_rfl
  exact (fn_calls okF okM Tryd.func47 (by kernel_rfl) (by kernel_rfl) (e.mpr h)).mono fun _ _ ⟨_, he, hR⟩ => ⟨he, hR⟩

/-- foliant/path.must[foliant/api.Point] -/
def S77 (x1 : Int × Int) (why2 : Int) (w : World) (R : (Int × Int) → World → Prop) (PR : Value → World → Prop) : Prop :=
  Nw w (.cells #[.int .i64 (x1.1), .int .i64 (x1.2)] 36) fun vw3 =>
  Nw vw3 (.cells #[.int .i64 0, .int .i64 0] 36) fun vw4 =>
  C20 (why2 == 0) why2 vw4 (fun vw5 =>
    Ld vw5 (⟨w.heap.size, 0, none⟩ : Addr) (Value.int .i64) fun (x6 : Int) =>
    Ld vw5 ((⟨w.heap.size, 0, none⟩ : Addr).add 1) (Value.int .i64) fun (x7 : Int) =>
    St vw5 (⟨vw3.heap.size, 0, none⟩ : Addr) (.int .i64 x6) fun vw8 =>
    St vw8 ((⟨vw3.heap.size, 0, none⟩ : Addr).add 1) (.int .i64 x7) fun vw9 =>
    Ld vw9 (⟨vw3.heap.size, 0, none⟩ : Addr) (Value.int .i64) fun (x10 : Int) =>
    Ld vw9 ((⟨vw3.heap.size, 0, none⟩ : Addr).add 1) (Value.int .i64) fun (x11 : Int) =>
    R (x10, x11) vw9) PR
def pl77 : Plan := (.seq (.reg .seq) (.seq (.reg .seq) (.seq (.reg .seq) .leaf)))
set_option maxRecDepth 100000 in
theorem T77 (x1 : Int × Int) (why2 : Int) (w : World) (R : (Int × Int) → World → Prop) (PR : Value → World → Prop) (h : S77 x1 why2 w R PR) : C77 (x1.1, x1.2) why2 w R PR := by
  have e : fnT Tryd.prog ⟨FF, MAY, PR⟩ pl77 Tryd.f77 [.agg #[.int .i64 (x1.1), .int .i64 (x1.2)], .int .i64 why2] w [(.agg [(.int .i64), (.int .i64)])] (fun s w => R s w) = S77 x1 why2 w R PR := by kernel_rfl
  exact (fn_callsP okF okM Tryd.func77 (by kernel_rfl) (by kernel_rfl) (e.mpr h)).mono fun _ _ he => he.elim (fun ⟨s, he, hR⟩ => .inl ⟨s, he, hR⟩) .inr

/-- (*foliant/path.pen).point -/
def S64 (p1 : Option Addr) (x2 : Int) (y3 : Int) (w : World) (R : (Int × Int) → World → Prop) (PR : Value → World → Prop) : Prop :=
  Nw w (.cells #[.int .i64 0, .int .i64 0] 36) fun vw4 =>
  Nn p1 fun a5 =>
  Ld vw4 a5 (Value.int .i64) fun (x6 : Int) =>
  Ld vw4 (a5.add 1) (Value.int .i64) fun (x7 : Int) =>
  Ld vw4 (a5.add 2) (Value.int .i64) fun (x8 : Int) =>
  Ld vw4 (a5.add 3) (Value.int .i64) fun (x9 : Int) =>
  Ld vw4 (a5.add 4) (Value.int .i64) fun (x10 : Int) =>
  Ld vw4 (a5.add 5) (Value.int .i64) fun (x11 : Int) =>
  C78 (x6, x7, x8, x9, x10, x11) (x2, y3) vw4 fun r12 r13 vw14 =>
    C77 (r12.1, r12.2) r13 vw14 (fun r15 vw16 =>
      St vw16 (⟨w.heap.size, 0, none⟩ : Addr) (.int .i64 (r15.1)) fun vw17 =>
      St vw17 ((⟨w.heap.size, 0, none⟩ : Addr).add 1) (.int .i64 (r15.2)) fun vw18 =>
      Ld vw18 (⟨w.heap.size, 0, none⟩ : Addr) (Value.int .i64) fun (x19 : Int) =>
      Ld vw18 ((⟨w.heap.size, 0, none⟩ : Addr).add 1) (Value.int .i64) fun (x20 : Int) =>
      R (x19, x20) vw18) PR
def pl64 : Plan := (.seq (.reg .seq) (.seq (.reg .seq) .leaf))
set_option maxRecDepth 100000 in
theorem T64 (p1 : Option Addr) (x2 : Int) (y3 : Int) (w : World) (R : (Int × Int) → World → Prop) (PR : Value → World → Prop) (h : S64 p1 x2 y3 w R PR) : C64 p1 x2 y3 w R PR := by
  have e : fnT Tryd.prog ⟨FF, MAY, PR⟩ pl64 Tryd.f64 [.pointer p1, .int .i64 x2, .int .i64 y3] w [(.agg [(.int .i64), (.int .i64)])] (fun s w => R s w) = S64 p1 x2 y3 w R PR := by kernel_rfl
  exact (fn_callsP okF okM Tryd.func64 (by kernel_rfl) (by kernel_rfl) (e.mpr h)).mono fun _ _ he => he.elim (fun ⟨s, he, hR⟩ => .inl ⟨s, he, hR⟩) .inr

/-- (*foliant/path.pen).next -/
def S48 (p1 : Option Addr) (w : World) (R : (Int × Int) → World → Prop) (PR : Value → World → Prop) : Prop :=
  Nw w (.cells #[.int .i64 0, .int .i64 0] 36) fun vw2 =>
  ∃ vS22 : World → Prop, vS22 vw2.drew ∧ Nn p1 fun a23 =>
  LdS vS22 (a23.add 6) Slc.v fun (x24 : Slc) =>
  0 ≤ (0 : Int) ∧ (0 : Int) < (x24.len : Nat) ∧ Nn x24.p fun a25 =>
  LdS vS22 (a25.add (((0 : Int)).toNat * 1)) (Value.int .i64) fun (x26 : Int) =>
  Nn p1 fun a27 =>
  LdS vS22 (a27.add 6) Slc.v fun (x28 : Slc) =>
  0 ≤ (1 : Int) ∧ (1 : Int) < (x28.len : Nat) ∧ Nn x28.p fun a29 =>
  LdS vS22 (a29.add (((1 : Int)).toNat * 1)) (Value.int .i64) fun (x30 : Int) =>
  (C64 p1 x26 x30 vw2.drew (fun r31 vw32 =>
      Nw vw32 (.cells #[.int .i64 0, .int .i64 0] 36) fun vw33 =>
      St vw33 (⟨vw32.heap.size, 0, none⟩ : Addr) (.int .i64 (r31.1)) fun vw34 =>
      St vw34 ((⟨vw32.heap.size, 0, none⟩ : Addr).add 1) (.int .i64 (r31.2)) fun vw35 =>
      Nn p1 fun a36 =>
      Ld vw35 (a36.add 6) Slc.v fun (x37 : Slc) =>
      0 ≤ (2 : Int) ∧ (2 : Int) ≤ ((x37.len : Nat) : Int) ∧ Nn p1 fun a38 =>
      St vw35 (a38.add 6) (Slc.v (x37.cut 1 (((2 : Int)).toNat) x37.len x37.cap)) fun vw39 =>
      Ld vw39 (⟨vw32.heap.size, 0, none⟩ : Addr) (Value.int .i64) fun (x40 : Int) =>
      Ld vw39 ((⟨vw32.heap.size, 0, none⟩ : Addr).add 1) (Value.int .i64) fun (x41 : Int) =>
      St vw39 (⟨w.heap.size, 0, none⟩ : Addr) (.int .i64 x40) fun vw42 =>
      St vw42 ((⟨w.heap.size, 0, none⟩ : Addr).add 1) (.int .i64 x41) fun vw43 =>
      Ld vw43 (⟨w.heap.size, 0, none⟩ : Addr) (Value.int .i64) fun (x44 : Int) =>
      Ld vw43 ((⟨w.heap.size, 0, none⟩ : Addr).add 1) (Value.int .i64) fun (x45 : Int) =>
      R (x44, x45) vw43) PR) ∧
  (Nw vw2.drew (.cells #[.int .i64 0, .int .i64 0] 36) fun vw46 =>
    vS22 vw46 ∧ C64 p1 x26 x30 vw46 (fun r47 vw48 =>
      St vw48 (⟨vw2.drew.heap.size, 0, none⟩ : Addr) (.int .i64 (r47.1)) fun vw49 =>
      St vw49 ((⟨vw2.drew.heap.size, 0, none⟩ : Addr).add 1) (.int .i64 (r47.2)) fun vw50 =>
      Nn p1 fun a51 =>
      Ld vw50 (a51.add 6) Slc.v fun (x52 : Slc) =>
      0 ≤ (2 : Int) ∧ (2 : Int) ≤ ((x52.len : Nat) : Int) ∧ Nn p1 fun a53 =>
      St vw50 (a53.add 6) (Slc.v (x52.cut 1 (((2 : Int)).toNat) x52.len x52.cap)) fun vw54 =>
      Ld vw54 (⟨vw2.drew.heap.size, 0, none⟩ : Addr) (Value.int .i64) fun (x55 : Int) =>
      Ld vw54 ((⟨vw2.drew.heap.size, 0, none⟩ : Addr).add 1) (Value.int .i64) fun (x56 : Int) =>
      St vw54 (⟨w.heap.size, 0, none⟩ : Addr) (.int .i64 x55) fun vw57 =>
      St vw57 ((⟨w.heap.size, 0, none⟩ : Addr).add 1) (.int .i64 x56) fun vw58 =>
      Ld vw58 (⟨w.heap.size, 0, none⟩ : Addr) (Value.int .i64) fun (x59 : Int) =>
      Ld vw58 ((⟨w.heap.size, 0, none⟩ : Addr).add 1) (Value.int .i64) fun (x60 : Int) =>
      R (x59, x60) vw58) PR)
def pl48 : Plan := (.seq (.reg .seq) (.seq (.reg (.held [13] (.take 0 (.take 1 (.take 2 (.take 3 (.take 4 (.take 5 (.take 6 (.take 7 (.take 8 (.take 9 (.take 10 (.take 11 (.take 12 (.effs 13 (some [14]) (.eff 14 (some [15]) (.eff 15 (some []) .done)) (.eff 14 none (.eff 13 (some [15]) (.eff 15 (some []) .done))))))))))))))))))) (.seq (.reg .seq) (.seq (.reg .seq) .leaf))))
set_option maxRecDepth 100000 in
theorem T48 (p1 : Option Addr) (w : World) (R : (Int × Int) → World → Prop) (PR : Value → World → Prop) (h : S48 p1 w R PR) : C48 p1 w R PR := by
  have e : fnT Tryd.prog ⟨FF, MAY, PR⟩ pl48 Tryd.f48 [.pointer p1] w [(.agg [(.int .i64), (.int .i64)])] (fun s w => R s w) = S48 p1 w R PR := by kernel_rfl
  exact (fn_callsP okF okM Tryd.func48 (by kernel_rfl) (by kernel_rfl) (e.mpr h)).mono fun _ _ he => he.elim (fun ⟨s, he, hR⟩ => .inl ⟨s, he, hR⟩) .inr

/-- (*foliant/path.pen).curve -/
def S49 (p1 : Option Addr) (a2 : Int × Int) (b3 : Int × Int) (c4 : Int × Int) (w : World) (R : World → Prop) : Prop :=
  Nw w (.cells #[.int .i64 (a2.1), .int .i64 (a2.2)] 36) fun vw5 =>
  Nw vw5 (.cells #[.int .i64 (b3.1), .int .i64 (b3.2)] 36) fun vw6 =>
  Nw vw6 (.cells #[.int .i64 (c4.1), .int .i64 (c4.2)] 36) fun vw7 =>
  Ld vw7 (⟨w.heap.size, 0, none⟩ : Addr) (Value.int .i64) fun (x8 : Int) =>
  Ld vw7 ((⟨w.heap.size, 0, none⟩ : Addr).add 1) (Value.int .i64) fun (x9 : Int) =>
  Ld vw7 (⟨vw5.heap.size, 0, none⟩ : Addr) (Value.int .i64) fun (x10 : Int) =>
  Ld vw7 ((⟨vw5.heap.size, 0, none⟩ : Addr).add 1) (Value.int .i64) fun (x11 : Int) =>
  Ld vw7 (⟨vw6.heap.size, 0, none⟩ : Addr) (Value.int .i64) fun (x12 : Int) =>
  Ld vw7 ((⟨vw6.heap.size, 0, none⟩ : Addr).add 1) (Value.int .i64) fun (x13 : Int) =>
  C47 p1 (3, x8, x9, x10, x11, x12, x13) vw7 fun vw14 =>
    R vw14
def pl49 : Plan := (.seq (.reg .seq) (.reg .seq))
set_option maxRecDepth 100000 in
theorem T49 (p1 : Option Addr) (a2 : Int × Int) (b3 : Int × Int) (c4 : Int × Int) (w : World) (R : World → Prop) (h : S49 p1 a2 b3 c4 w R) : C49 p1 (a2.1, a2.2) (b3.1, b3.2) (c4.1, c4.2) w R := by
  have e : fnT Tryd.prog ⟨FF, MAY, (fun _ _ => False)⟩ pl49 Tryd.f49 [.pointer p1, .agg #[.int .i64 (a2.1), .int .i64 (a2.2)], .agg #[.int .i64 (b3.1), .int .i64 (b3.2)], .agg #[.int .i64 (c4.1), .int .i64 (c4.2)]] w [] (fun _ w => R w) = S49 p1 a2 b3 c4 w R := by kernel_rfl
  exact (fn_calls okF okM Tryd.func49 (by kernel_rfl) (by kernel_rfl) (e.mpr h)).mono fun _ _ ⟨_, he, hR⟩ => ⟨he, hR⟩

/-- foliant/path.must[int64] -/
def S65 (x1 : Int) (why2 : Int) (w : World) (R : Int → World → Prop) (PR : Value → World → Prop) : Prop :=
  C20 (why2 == 0) why2 w (fun vw3 =>
    R x1 vw3) PR
def pl65 : Plan := (.seq (.reg .seq) (.seq (.reg .seq) (.seq (.reg .seq) .leaf)))
set_option maxRecDepth 100000 in
theorem T65 (x1 : Int) (why2 : Int) (w : World) (R : Int → World → Prop) (PR : Value → World → Prop) (h : S65 x1 why2 w R PR) : C65 x1 why2 w R PR := by
  have e : fnT Tryd.prog ⟨FF, MAY, PR⟩ pl65 Tryd.f65 [.int .i64 x1, .int .i64 why2] w [(.one (.int .i64))] (fun s w => R s w) = S65 x1 why2 w R PR := by kernel_rfl
  exact (fn_callsP okF okM Tryd.func65 (by kernel_rfl) (by kernel_rfl) (e.mpr h)).mono fun _ _ he => he.elim (fun ⟨s, he, hR⟩ => .inl ⟨s, he, hR⟩) .inr

def S50L1 (p1 : Option Addr) (x5 : Int) (x9 : Int) (r18 : Int) (r28 : Int) (R : World → Prop) (PR : Value → World → Prop) (I32 : Int → World → Prop) (s30 : Int) (vw31 : World) : Prop :=
  Br (decide (s30 < 4)) (0 ≤ s30 ∧ s30 < (4 : Nat) ∧ ∃ x33 : Int × Int, (#[.int .i64 x5, .int .i64 x9, .int .i64 r18, .int .i64 x9, .int .i64 r18, .int .i64 r28, .int .i64 x5, .int .i64 r28] : Array Value).extract ((s30).toNat * 2) ((s30).toNat * 2 + 2) = #[.int .i64 (x33.1), .int .i64 (x33.2)] ∧ Nw vw31 (.cells #[.int .i64 0, .int .i64 0] 131) fun vw34 =>
    St vw34 (⟨vw31.heap.size, 0, none⟩ : Addr) (.int .i64 (x33.1)) fun vw35 =>
    St vw35 ((⟨vw31.heap.size, 0, none⟩ : Addr).add 1) (.int .i64 (x33.2)) fun vw36 =>
    Br (s30 == 0) (Ld vw36 (⟨vw31.heap.size, 0, none⟩ : Addr) (Value.int .i64) fun (x37 : Int) =>
      Ld vw36 ((⟨vw31.heap.size, 0, none⟩ : Addr).add 1) (Value.int .i64) fun (x38 : Int) =>
      C64 p1 x37 x38 vw36 (fun r39 vw40 =>
        C47 p1 (1, 0, 0, 0, 0, r39.1, r39.2) vw40 fun vw41 =>
          I32 (IntKind.i64.wrap (s30 + 1)) vw41) PR) (Ld vw36 (⟨vw31.heap.size, 0, none⟩ : Addr) (Value.int .i64) fun (x42 : Int) =>
      Ld vw36 ((⟨vw31.heap.size, 0, none⟩ : Addr).add 1) (Value.int .i64) fun (x43 : Int) =>
      C64 p1 x42 x43 vw36 (fun r44 vw45 =>
        C47 p1 (2, 0, 0, 0, 0, r44.1, r44.2) vw45 fun vw46 =>
          I32 (IntKind.i64.wrap (s30 + 1)) vw46) PR)) (C47 p1 (4, 0, 0, 0, 0, 0, 0) vw31 fun vw47 =>
      R vw47)
/-- (*foliant/path.pen).rect -/
def S50 (p1 : Option Addr) (w : World) (R : World → Prop) (PR : Value → World → Prop) : Prop :=
  Nn p1 fun a2 =>
  Ld w.drew (a2.add 6) Slc.v fun (x3 : Slc) =>
  0 ≤ (0 : Int) ∧ (0 : Int) < (x3.len : Nat) ∧ Nn x3.p fun a4 =>
  Ld w.drew (a4.add (((0 : Int)).toNat * 1)) (Value.int .i64) fun (x5 : Int) =>
  Nn p1 fun a6 =>
  Ld w.drew (a6.add 6) Slc.v fun (x7 : Slc) =>
  0 ≤ (1 : Int) ∧ (1 : Int) < (x7.len : Nat) ∧ Nn x7.p fun a8 =>
  Ld w.drew (a8.add (((1 : Int)).toNat * 1)) (Value.int .i64) fun (x9 : Int) =>
  Nn p1 fun a10 =>
  Ld w.drew (a10.add 6) Slc.v fun (x11 : Slc) =>
  0 ≤ (2 : Int) ∧ (2 : Int) < (x11.len : Nat) ∧ Nn x11.p fun a12 =>
  Ld w.drew (a12.add (((2 : Int)).toNat * 1)) (Value.int .i64) fun (x13 : Int) =>
  Nw w.drew (.cells #[.int .i64 x5, .int .i64 x13] 2) fun vw14 =>
  C66 (⟨some ⟨w.drew.heap.size, 0, none⟩, 2, 2⟩ : Slc) vw14 fun r15 r16 vw17 =>
    C65 r15 r16 vw17 (fun r18 vw19 =>
      Nn p1 fun a20 =>
      Ld vw19 (a20.add 6) Slc.v fun (x21 : Slc) =>
      0 ≤ (3 : Int) ∧ (3 : Int) < (x21.len : Nat) ∧ Nn x21.p fun a22 =>
      Ld vw19 (a22.add (((3 : Int)).toNat * 1)) (Value.int .i64) fun (x23 : Int) =>
      Nw vw19 (.cells #[.int .i64 x9, .int .i64 x23] 2) fun vw24 =>
      C66 (⟨some ⟨vw19.heap.size, 0, none⟩, 2, 2⟩ : Slc) vw24 fun r25 r26 vw27 =>
        C65 r25 r26 vw27 (fun r28 vw29 =>
          Lp (σ := Int) (S50L1 p1 x5 x9 r18 r28 R PR) 0 vw29) PR) PR
def pl50 : Plan := (.seq (.reg .still) (.seq (.reg .seq) (.seq (.reg .seq) (.seq (.seq (.reg .seq) (.block (.loop [(58, (.one (.int .i64)))] [0, 57] (.seq (.reg .seq) (.seq (.cond .leaf .leaf) (.seq (.block (.seq (.reg .seq) (.seq (.reg .seq) (.seq (.seq (.reg .seq) (.cond (.reg .seq) .leaf)) (.reg .seq))))) (.reg .seq))))))) (.reg .seq)))))
set_option maxRecDepth 100000 in
theorem T50 (p1 : Option Addr) (w : World) (R : World → Prop) (PR : Value → World → Prop) (h : S50 p1 w R PR) : C50 p1 w R PR := by
  have e : fnT Tryd.prog ⟨FF, MAY, PR⟩ pl50 Tryd.f50 [.pointer p1] w [] (fun _ w => R w) = S50 p1 w R PR := by kernel_rfl
  exact (fn_callsP okF okM Tryd.func50 (by kernel_rfl) (by kernel_rfl) (e.mpr h)).mono fun _ _ he => he.elim (fun ⟨_, he, hR⟩ => .inl ⟨he, hR⟩) .inr

/-- (*foliant/path.pen).draw -/
def S27 (p1 : Option Addr) (name2 : ByteArray) (w : World) (R : World → Prop) (PR : Value → World → Prop) : Prop :=
  Br (name2.toList == (⟨#[109]⟩ : ByteArray).toList) (C48 p1 w (fun r3 vw4 =>
      C47 p1 (1, 0, 0, 0, 0, r3.1, r3.2) vw4 fun vw5 =>
        R vw5) PR) (Br (name2.toList == (⟨#[108]⟩ : ByteArray).toList) (C48 p1 w (fun r6 vw7 =>
        C47 p1 (2, 0, 0, 0, 0, r6.1, r6.2) vw7 fun vw8 =>
          R vw8) PR) (Br (name2.toList == (⟨#[99]⟩ : ByteArray).toList) (C48 p1 w (fun r9 vw10 =>
          Nw vw10 (.cells #[.int .i64 0, .int .i64 0] 36) fun vw11 =>
          St vw11 (⟨vw10.heap.size, 0, none⟩ : Addr) (.int .i64 (r9.1)) fun vw12 =>
          St vw12 ((⟨vw10.heap.size, 0, none⟩ : Addr).add 1) (.int .i64 (r9.2)) fun vw13 =>
          C48 p1 vw13 (fun r14 vw15 =>
            Nw vw15 (.cells #[.int .i64 0, .int .i64 0] 36) fun vw16 =>
            St vw16 (⟨vw15.heap.size, 0, none⟩ : Addr) (.int .i64 (r14.1)) fun vw17 =>
            St vw17 ((⟨vw15.heap.size, 0, none⟩ : Addr).add 1) (.int .i64 (r14.2)) fun vw18 =>
            ∃ vS19 : World → Prop, vS19 vw18.drew ∧ LdS vS19 (⟨vw10.heap.size, 0, none⟩ : Addr) (Value.int .i64) fun (x20 : Int) =>
            LdS vS19 ((⟨vw10.heap.size, 0, none⟩ : Addr).add 1) (Value.int .i64) fun (x21 : Int) =>
            LdS vS19 (⟨vw15.heap.size, 0, none⟩ : Addr) (Value.int .i64) fun (x22 : Int) =>
            LdS vS19 ((⟨vw15.heap.size, 0, none⟩ : Addr).add 1) (Value.int .i64) fun (x23 : Int) =>
            C48 p1 vw18.drew (fun r24 vw25 =>
              vS19 vw25 ∧ C49 p1 (x20, x21) (x22, x23) (r24.1, r24.2) vw25 fun vw26 =>
                R vw26) PR) PR) PR) (Br (name2.toList == (⟨#[118]⟩ : ByteArray).toList) (C48 p1 w (fun r27 vw28 =>
            Nw vw28 (.cells #[.int .i64 0, .int .i64 0] 36) fun vw29 =>
            St vw29 (⟨vw28.heap.size, 0, none⟩ : Addr) (.int .i64 (r27.1)) fun vw30 =>
            St vw30 ((⟨vw28.heap.size, 0, none⟩ : Addr).add 1) (.int .i64 (r27.2)) fun vw31 =>
            ∃ vS32 : World → Prop, vS32 vw31.drew ∧ Nn p1 fun a33 =>
            LdS vS32 (a33.add 7) (Value.int .i64) fun (x34 : Int) =>
            LdS vS32 ((a33.add 7).add 1) (Value.int .i64) fun (x35 : Int) =>
            LdS vS32 (⟨vw28.heap.size, 0, none⟩ : Addr) (Value.int .i64) fun (x36 : Int) =>
            LdS vS32 ((⟨vw28.heap.size, 0, none⟩ : Addr).add 1) (Value.int .i64) fun (x37 : Int) =>
            C48 p1 vw31.drew (fun r38 vw39 =>
              vS32 vw39 ∧ C49 p1 (x34, x35) (x36, x37) (r38.1, r38.2) vw39 fun vw40 =>
                R vw40) PR) PR) (Br (name2.toList == (⟨#[121]⟩ : ByteArray).toList) (C48 p1 w (fun r41 vw42 =>
              Nw vw42 (.cells #[.int .i64 0, .int .i64 0] 36) fun vw43 =>
              St vw43 (⟨vw42.heap.size, 0, none⟩ : Addr) (.int .i64 (r41.1)) fun vw44 =>
              St vw44 ((⟨vw42.heap.size, 0, none⟩ : Addr).add 1) (.int .i64 (r41.2)) fun vw45 =>
              C48 p1 vw45 (fun r46 vw47 =>
                Nw vw47 (.cells #[.int .i64 0, .int .i64 0] 36) fun vw48 =>
                St vw48 (⟨vw47.heap.size, 0, none⟩ : Addr) (.int .i64 (r46.1)) fun vw49 =>
                St vw49 ((⟨vw47.heap.size, 0, none⟩ : Addr).add 1) (.int .i64 (r46.2)) fun vw50 =>
                Ld vw50 (⟨vw42.heap.size, 0, none⟩ : Addr) (Value.int .i64) fun (x51 : Int) =>
                Ld vw50 ((⟨vw42.heap.size, 0, none⟩ : Addr).add 1) (Value.int .i64) fun (x52 : Int) =>
                Ld vw50 (⟨vw47.heap.size, 0, none⟩ : Addr) (Value.int .i64) fun (x53 : Int) =>
                Ld vw50 ((⟨vw47.heap.size, 0, none⟩ : Addr).add 1) (Value.int .i64) fun (x54 : Int) =>
                Ld vw50 (⟨vw47.heap.size, 0, none⟩ : Addr) (Value.int .i64) fun (x55 : Int) =>
                Ld vw50 ((⟨vw47.heap.size, 0, none⟩ : Addr).add 1) (Value.int .i64) fun (x56 : Int) =>
                C49 p1 (x51, x52) (x53, x54) (x55, x56) vw50 fun vw57 =>
                  R vw57) PR) PR) (Br (name2.toList == (⟨#[104]⟩ : ByteArray).toList) (C47 p1 (4, 0, 0, 0, 0, 0, 0) w fun vw58 =>
                R vw58) (Br (name2.toList == (⟨#[114, 101]⟩ : ByteArray).toList) (C50 p1 w (fun vw59 =>
                  R vw59) PR) (R w)))))))
def pl27 : Plan := (.seq (.reg .seq) (.block (.seq (.reg .seq) (.cond (.reg .seq) (.seq (.reg .seq) (.cond (.reg .seq) (.seq (.reg .seq) (.cond (.seq (.reg .seq) (.seq (.reg .seq) (.reg (.held [5] (.take 0 (.take 1 (.take 2 (.take 3 (.eff 4 none (.eff 5 (some []) .done)))))))))) (.seq (.reg .seq) (.cond (.seq (.reg .seq) (.reg (.held [8] (.take 0 (.take 1 (.take 2 (.take 3 (.take 4 (.take 5 (.take 6 (.eff 7 none (.eff 8 (some []) .done)))))))))))) (.seq (.reg .seq) (.cond (.seq (.reg .seq) (.seq (.reg .seq) (.reg .seq))) (.seq (.reg .seq) (.cond (.reg .seq) (.seq (.reg .seq) (.cond (.reg .seq) .leaf))))))))))))))))
set_option maxRecDepth 100000 in
theorem T27 (p1 : Option Addr) (name2 : ByteArray) (w : World) (R : World → Prop) (PR : Value → World → Prop) (h : S27 p1 name2 w R PR) : C27 p1 name2 w R PR := by
  have e : fnT Tryd.prog ⟨FF, MAY, PR⟩ pl27 Tryd.f27 [.pointer p1, .string name2] w [] (fun _ w => R w) = S27 p1 name2 w R PR := by kernel_rfl
  exact (fn_callsP okF okM Tryd.func27 (by kernel_rfl) (by kernel_rfl) (e.mpr h)).mono fun _ _ he => he.elim (fun ⟨_, he, hR⟩ => .inl ⟨he, hR⟩) .inr

def S5P (vw5 : World) (R : Int → World → Prop) (x8 : Value) (vw7 : World) : Prop :=
  CD19 (⟨vw5.heap.size, 0, none⟩ : Addr) (some x8) vw7 fun vw9 =>
    Ld vw9 (⟨vw5.heap.size, 0, none⟩ : Addr) (Value.int .i64) fun (x10 : Int) =>
    R x10 vw9
def S5L1 (w : World) (x1 : Option Addr) (vw5 : World) (x100 : Slc) (R : Int → World → Prop) (I103 : Int → World → Prop) (s101 : Int) (vw102 : World) : Prop :=
  Br (decide (s101 < ((x100.len : Nat) : Int))) (0 ≤ s101 ∧ s101 < (x100.len : Nat) ∧ Nn x100.p fun a104 =>
    Ld vw102 (a104.add ((s101).toNat * 7)) (Value.int .i64) fun (x105 : Int) =>
    Ld vw102 ((a104.add ((s101).toNat * 7)).add 1) (Value.int .i64) fun (x106 : Int) =>
    Ld vw102 ((a104.add ((s101).toNat * 7)).add 2) (Value.int .i64) fun (x107 : Int) =>
    Ld vw102 ((a104.add ((s101).toNat * 7)).add 3) (Value.int .i64) fun (x108 : Int) =>
    Ld vw102 ((a104.add ((s101).toNat * 7)).add 4) (Value.int .i64) fun (x109 : Int) =>
    Ld vw102 ((a104.add ((s101).toNat * 7)).add 5) (Value.int .i64) fun (x110 : Int) =>
    Ld vw102 ((a104.add ((s101).toNat * 7)).add 6) (Value.int .i64) fun (x111 : Int) =>
    Nw vw102 (.cells #[.int .i64 0, .int .i64 0, .int .i64 0, .int .i64 0, .int .i64 0, .int .i64 0, .int .i64 0] 38) fun vw112 =>
    St vw112 (⟨vw102.heap.size, 0, none⟩ : Addr) (.int .i64 x105) fun vw113 =>
    St vw113 ((⟨vw102.heap.size, 0, none⟩ : Addr).add 1) (.int .i64 x106) fun vw114 =>
    St vw114 ((⟨vw102.heap.size, 0, none⟩ : Addr).add 2) (.int .i64 x107) fun vw115 =>
    St vw115 ((⟨vw102.heap.size, 0, none⟩ : Addr).add 3) (.int .i64 x108) fun vw116 =>
    St vw116 ((⟨vw102.heap.size, 0, none⟩ : Addr).add 4) (.int .i64 x109) fun vw117 =>
    St vw117 ((⟨vw102.heap.size, 0, none⟩ : Addr).add 5) (.int .i64 x110) fun vw118 =>
    St vw118 ((⟨vw102.heap.size, 0, none⟩ : Addr).add 6) (.int .i64 x111) fun vw119 =>
    Ld vw119 (⟨vw102.heap.size, 0, none⟩ : Addr) (Value.int .i64) fun (x120 : Int) =>
    Br (x120 == 1) (Ld vw119 ((⟨vw102.heap.size, 0, none⟩ : Addr).add 5) (Value.int .i64) fun (x121 : Int) =>
      Ld vw119 (((⟨vw102.heap.size, 0, none⟩ : Addr).add 5).add 1) (Value.int .i64) fun (x122 : Int) =>
      Nn x1 fun a123 =>
      St vw119 (a123.add 1) (.int .i64 x121) fun vw124 =>
      St vw124 ((a123.add 1).add 1) (.int .i64 x122) fun vw125 =>
      I103 (IntKind.i64.wrap (s101 + 1)) vw125) (I103 (IntKind.i64.wrap (s101 + 1)) vw119)) (Nn x1 fun a126 =>
    Ld vw102 (a126.add 3) Value.bool fun (x127 : Bool) =>
    Br x127 (Nn x1 fun a128 =>
      St vw102 (a128.add 3) (.bool true) fun vw129 =>
      St vw129 (⟨vw5.heap.size, 0, none⟩ : Addr) (.int .i64 0) fun vw130 =>
      CD19 (⟨vw5.heap.size, 0, none⟩ : Addr) none vw130 fun vw131 =>
        Ld vw131 (⟨vw5.heap.size, 0, none⟩ : Addr) (Value.int .i64) fun (x132 : Int) =>
        R x132 vw131) (Ld vw102 (⟨w.heap.size, 0, none⟩ : Addr) Value.string fun (x133 : ByteArray) =>
      0 ≤ (0 : Int) ∧ (0 : Int) < ((x133).size : Nat) ∧ Nn x1 fun a134 =>
      St vw102 (a134.add 3) (.bool ((bAt x133 0) == 87)) fun vw135 =>
      St vw135 (⟨vw5.heap.size, 0, none⟩ : Addr) (.int .i64 0) fun vw136 =>
      CD19 (⟨vw5.heap.size, 0, none⟩ : Addr) none vw136 fun vw137 =>
        Ld vw137 (⟨vw5.heap.size, 0, none⟩ : Addr) (Value.int .i64) fun (x138 : Int) =>
        R x138 vw137))
def S5J1 (w : World) (x1 : Option Addr) (vw5 : World) (vw26 : World) (R : Int → World → Prop) (s44 : Unit) (vw45 : World) : Prop :=
  Ld vw45 (⟨w.heap.size, 0, none⟩ : Addr) Value.string fun (x46 : ByteArray) =>
  Ld vw45 ((⟨w.heap.size, 0, none⟩ : Addr).add 1) Slc.v fun (x47 : Slc) =>
  Ld vw45 ((⟨w.heap.size, 0, none⟩ : Addr).add 2) Value.string fun (x48 : ByteArray) =>
  C26 (x46, x47, x48) vw45 fun r49 r50 vw51 =>
    C25 r49 r50 vw51 (fun r52 vw53 =>
      Nn (some (⟨vw26.heap.size, 0, none⟩ : Addr)) fun a54 =>
      St vw53 (a54.add 6) (Slc.v r52) fun vw55 =>
      Ld vw55 (⟨w.heap.size, 0, none⟩ : Addr) Value.string fun (x56 : ByteArray) =>
      C27 (some (⟨vw26.heap.size, 0, none⟩ : Addr)) x56 vw55 (fun vw57 =>
        Nn x1 fun a58 =>
        Ld vw57.drew a58 Slc.v fun (x59 : Slc) =>
        Nn (some (⟨vw26.heap.size, 0, none⟩ : Addr)) fun a60 =>
        Ld vw57.drew (a60.add 9) Slc.v fun (x61 : Slc) =>
        C20 (decide ((IntKind.i64.wrap (((x59.len : Nat) : Int) + ((x61.len : Nat) : Int))) ≤ 8192)) 6 vw57.drew (fun vw62 =>
          ∃ vS63 : World → Prop, vS63 vw62.drew ∧ Nn x1 fun a64 =>
          LdS vS63 a64 Slc.v fun (x65 : Slc) =>
          Nn (some (⟨vw26.heap.size, 0, none⟩ : Addr)) fun a66 =>
          LdS vS63 (a66.add 9) Slc.v fun (x67 : Slc) =>
          Rn Tryd.prog (Builtin.append_ #[33, 33] 33 #[Slc.v x65, Slc.v x67]) vw62.drew Slc.v fun (x68 : Slc) vw69 =>
          Nn x1 fun a70 =>
          St vw69 a70 (Slc.v x68) fun vw71 =>
          Nn (some (⟨vw26.heap.size, 0, none⟩ : Addr)) fun a99 =>
          Ld vw71 (a99.add 9) Slc.v fun (x100 : Slc) =>
          Lp (σ := Int) (S5L1 w x1 vw5 x100 R) 0 vw71) (S5P vw5 R)) (S5P vw5 R)) (S5P vw5 R)
/-- (*foliant/path.Path).Do -/
def S5 (x1 : Option Addr) (o2 : ByteArray × Slc × ByteArray) (m3 : Int × Int × Int × Int × Int × Int) (w : World) (R : Int → World → Prop) : Prop :=
  Nw w (.cells #[.string o2.1, Slc.v o2.2.1, .string o2.2.2] 31) fun vw4 =>
  Nw vw4 (.cells #[.int .i64 (m3.1), .int .i64 (m3.2.1), .int .i64 (m3.2.2.1), .int .i64 (m3.2.2.2.1), .int .i64 (m3.2.2.2.2.1), .int .i64 (m3.2.2.2.2.2)] 23) fun vw5 =>
  Nw vw5 (.cells #[.int .i64 0] 26) fun vw6 =>
  C20 (!(x1.isNone)) 1 vw6 (fun vw11 =>
    Ld vw11 (⟨w.heap.size, 0, none⟩ : Addr) Value.string fun (x12 : ByteArray) =>
    C21 x12 vw11 fun r13 vw14 =>
      C20 r13 8 vw14 (fun vw15 =>
        ∃ vS16 : World → Prop, vS16 vw15.drew ∧ LdS vS16 (⟨w.heap.size, 0, none⟩ : Addr) Value.string fun (x17 : ByteArray) =>
        LdS vS16 ((⟨w.heap.size, 0, none⟩ : Addr).add 1) Slc.v fun (x18 : Slc) =>
        LdS vS16 ((⟨w.heap.size, 0, none⟩ : Addr).add 2) Value.string fun (x19 : ByteArray) =>
        LdS vS16 (⟨w.heap.size, 0, none⟩ : Addr) Value.string fun (x20 : ByteArray) =>
        LdS vS16 ((⟨w.heap.size, 0, none⟩ : Addr).add 1) Slc.v fun (x21 : Slc) =>
        LdS vS16 ((⟨w.heap.size, 0, none⟩ : Addr).add 2) Value.string fun (x22 : ByteArray) =>
        C23 (x20, x21, x22) vw15.drew fun r23 vw24 =>
          vS16 vw24 ∧ C22 (x17, x18, x19) r23 vw24 (fun r25 vw26 =>
            Ld vw26 (⟨vw4.heap.size, 0, none⟩ : Addr) (Value.int .i64) fun (x27 : Int) =>
            Ld vw26 ((⟨vw4.heap.size, 0, none⟩ : Addr).add 1) (Value.int .i64) fun (x28 : Int) =>
            Ld vw26 ((⟨vw4.heap.size, 0, none⟩ : Addr).add 2) (Value.int .i64) fun (x29 : Int) =>
            Ld vw26 ((⟨vw4.heap.size, 0, none⟩ : Addr).add 3) (Value.int .i64) fun (x30 : Int) =>
            Ld vw26 ((⟨vw4.heap.size, 0, none⟩ : Addr).add 4) (Value.int .i64) fun (x31 : Int) =>
            Ld vw26 ((⟨vw4.heap.size, 0, none⟩ : Addr).add 5) (Value.int .i64) fun (x32 : Int) =>
            Nw vw26 (.cells #[.int .i64 x27, .int .i64 x28, .int .i64 x29, .int .i64 x30, .int .i64 x31, .int .i64 x32, Slc.v ((⟨none, 0, 0⟩ : Slc)), .int .i64 0, .int .i64 0, Slc.v ((⟨none, 0, 0⟩ : Slc))] 77) fun vw33 =>
            Join (S5J1 w x1 vw5 vw26 R) fun (vJ139 : Unit → World → Prop) =>
              Ld vw33 (⟨w.heap.size, 0, none⟩ : Addr) Value.string fun (x140 : ByteArray) =>
              Br (!(x140.toList == (⟨#[109]⟩ : ByteArray).toList)) (Ld vw33 (⟨w.heap.size, 0, none⟩ : Addr) Value.string fun (x141 : ByteArray) =>
                Br (!(x141.toList == (⟨#[114, 101]⟩ : ByteArray).toList)) (Nn x1 fun a142 =>
                  Ld vw33 a142 Slc.v fun (x143 : Slc) =>
                  C20 (decide (((x143.len : Nat) : Int) > 0)) 29 vw33 (fun vw144 =>
                    C24 x1 vw144 fun r145 vw146 =>
                      Nn (some (⟨vw26.heap.size, 0, none⟩ : Addr)) fun a147 =>
                      St vw146 (a147.add 7) (.int .i64 (r145.1)) fun vw148 =>
                      St vw148 ((a147.add 7).add 1) (.int .i64 (r145.2)) fun vw149 =>
                      vJ139 () vw149) (S5P vw5 R)) (vJ139 () vw33)) (vJ139 () vw33)) (S5P vw5 R)) (S5P vw5 R)) (S5P vw5 R)
def pl5 : DPlan := (.pre (.reg .seq) (.here [6] (.seq (.reg .seq) (.seq (.reg .seq) (.seq (.reg (.held [3] (.take 0 (.take 1 (.eff 2 none (.eff 3 (some []) .done)))))) (.seq (.reg .seq) (.join [] [0, 4, 6, 7] (.seq (.reg .seq) (.cond (.seq (.reg .seq) (.reg .seq)) .leaf)) (.seq (.reg .seq) (.seq (.reg .seq) (.seq (.reg (.tail 12)) (.seq (.reg (.held [9] (.take 0 (.take 1 (.take 2 (.take 3 (.take 4 (.take 5 (.take 6 (.take 7 (.take 8 (.eff 9 (some [12]) (.take 10 (.take 11 (.eff 12 (some []) .done))))))))))))))) (.seq (.seq (.reg .seq) (.block (.loop [(87, (.one (.int .i64)))] [0, 4, 6, 85, 86] (.seq (.reg .seq) (.seq (.cond .leaf .leaf) (.seq (.block (.seq (.reg .seq) (.seq (.reg .seq) (.cond (.reg .seq) .leaf)))) (.reg .seq))))))) (.seq (.reg .seq) (.seq (.reg .seq) .leaf))))))))))))))
set_option maxRecDepth 100000 in
theorem T5 (x1 : Option Addr) (o2 : ByteArray × Slc × ByteArray) (m3 : Int × Int × Int × Int × Int × Int) (w : World) (R : Int → World → Prop) (h : S5 x1 o2 m3 w R) : C5 x1 (o2.1, o2.2.1, o2.2.2) (m3.1, m3.2.1, m3.2.2.1, m3.2.2.2.1, m3.2.2.2.2.1, m3.2.2.2.2.2) w R := by
  have e : fnTD Tryd.prog FF MAY (fun _ _ => False) pl5 Tryd.f5 [.pointer x1, .agg #[.string o2.1, Slc.v o2.2.1, .string o2.2.2], .agg #[.int .i64 (m3.1), .int .i64 (m3.2.1), .int .i64 (m3.2.2.1), .int .i64 (m3.2.2.2.1), .int .i64 (m3.2.2.2.2.1), .int .i64 (m3.2.2.2.2.2)]] w [(.one (.int .i64))] (fun s w => R s w) = S5 x1 o2 m3 w R := by kernel_rfl
  exact (fnD_calls okF okM Tryd.func5 (by kernel_rfl) (by kernel_rfl) (e.mpr h)).mono fun _ _ ⟨s, he, hR⟩ => ⟨s, he, hR⟩

end Go.Proofs.YtdchpkbpnfoknaaDoor

/- Paths: rows of numbers and of segments; the pen. Conditions: sizes. -/
namespace Go.Proofs.YtdchpkbpnfoknaaDoor
namespace Pat
open Sh Mat Fix Opr
set_option linter.unusedVariables false
set_option linter.unusedSimpArgs false
set_option maxRecDepth 4000
set_option maxHeartbeats 4000000
def ints (l : List Int) : List Value := l.map fun x => .int .i64 x
theorem elN : El Tryd.prog 55 2 1 8 (.int .i64 0) := ⟨by kernel_rfl, by kernel_rfl, by kernel_rfl, by kernel_rfl, rfl⟩
theorem ints_len (l : List Int) : (ints l).length = l.length := by unfold ints; simp
theorem ints_one (l : List Int) : ∀ v ∈ ints l, v.oneCell' = true := by
  intro v hv
  obtain ⟨x, _, rfl⟩ := List.mem_map.1 hv
  rfl
theorem ints_get {l : List Int} {i : Nat} (hi : i < l.length) : (ints l)[i]? = some (.int .i64 (l.getD i 0)) := by
  unfold ints
  rw [List.getElem?_map, List.getElem?_eq_getElem hi, List.getD_eq_getElem?_getD, List.getElem?_eq_getElem hi]
  rfl
theorem ints_set (l : List Int) (i : Nat) (x : Int) : (ints l).set i (.int .i64 x) = ints (l.set i x) := by unfold ints; rw [List.map_set]
theorem ints_app (l m : List Int) : ints (l ++ m) = ints l ++ ints m := by unfold ints; rw [List.map_append]
/-- The ints of a slice. -/
def IV (w : World) (s : Slc) (l : List Int) : Prop := s.len = l.length ∧ VRow w s 1 (ints l)
section
variable {w w' w1 : World} {s : Slc} {l : List Int} {L K : List Ob}
theorem IV.keep (h : IV w s l) (he : Ext (fun _ => False) w w') : IV w' s l := ⟨h.1, h.2.keep he⟩
theorem IV.keepF {F : Nat → Prop} (h : IV w s l) (he : Ext F w w') (hF : ∀ j, s.own j → ¬ F j) : IV w' s l := ⟨h.1, h.2.keepF he hF⟩
theorem IV.nil (w : World) : IV w ⟨none, 0, 0⟩ [] := ⟨rfl, rfl, fun j v h => by cases h⟩
theorem IV.get (h : IV w s l) {i : Nat} (hi : i < l.length) : ∃ a, s.p = some a ∧ w.cell? (a.add (i * 1)) = some (.int .i64 (l.getD i 0)) := by
  obtain ⟨a, ha, hc⟩ := h.2.2 i _ (ints_get hi)
  exact ⟨a, ha, by rw [Nat.mul_one]; exact hc⟩
theorem IV.row {t : TypeId} (h : Row w s t 1 (ints l)) : IV w s l := by
  refine ⟨?_, h.view⟩
  have := h.1
  rw [ints_len] at this
  omega
theorem Ext.new {F : Nat → Prop} {a b c : World} (h : Ext (fun _ => False) a b) (k : Ext F b c) (hF : ∀ j, F j → a.heap.size ≤ j) : Ext (fun _ => False) a c :=
  h.trans k (fun _ h => h) fun i hi hh => absurd hi (by have := hF i hh; omega)
/-- A row of ints of its own. -/
def IO (w0 w : World) (r : Slc) (l : List Int) : Prop := Row w r 2 1 (ints l) ∧ ∀ j, r.own j → w0.heap.size ≤ j
theorem IO.iv {w0 : World} {r : Slc} (h : IO w0 w r l) : IV w r l := IV.row h.1
theorem IO.nil (w0 w : World) : IO w0 w ⟨none, 0, 0⟩ [] := ⟨Row.nil _ _ _, fun j hj => by obtain ⟨a, ha, _⟩ := hj; cases ha⟩
attribute [local irreducible] Ld Sh.St Nw Nn Lt LdS LdT LdST StT
theorem IO.snoc {w0 : World} {r : Slc} {x : Int} {ty : TypeId} {K : Slc → World → Prop} (h : IO w0 w r l) (he : Ext (fun _ => False) w0 w) (hl : l.length ≤ 1000000)
    (k : ∀ r' w', IO w0 w' r' (l ++ [x]) → Ext (fun _ => False) w0 w' → K r' w') :
    Nw w (.cells #[.int .i64 x] 2) fun w2 => Rn Tryd.prog (Builtin.append_ #[55, 55] ty #[Slc.v r, Slc.v (⟨some ⟨w.heap.size, 0, none⟩, 1, 1⟩ : Slc)]) w2 Slc.v fun (r' : Slc) w3 => K r' w3 := by
  refine (Hn.start w).nw fun w2 H => ?_
  have hb := H.get 0 rfl
  have e2 := H.ext
  have hlen := h.iv.1
  obtain ⟨s', w', r1, r2, r3, r4, r5⟩ := elN.app1 (ty := ty) (ys := [.int .i64 x]) (h.1.keep e2 fun _ _ e => e) hb rfl (by intro v hv; rw [List.mem_singleton.1 hv]; rfl) (by omega) (by omega)
  have E2 := he.tr e2
  refine ⟨s', w', r1, k s' w' ⟨by rw [ints_app]; exact r2, fun j hj => ?_⟩ (Ext.new E2 r4 h.2)⟩
  have := E2.size
  rcases r5 j hj with hh | hh
  · exact h.2 j hh
  · omega
theorem IV.row' (h : IV w s l) : IRow w s l := ⟨h.1, fun i hi => by
  obtain ⟨a, ha, hc⟩ := h.get hi
  exact ⟨a, ha, by rw [Nat.mul_one] at hc; exact hc⟩⟩
theorem IV.drop (h : IV w s l) (hc : s.len ≤ s.cap) {d : Nat} (hd : d ≤ l.length) : IV w (s.cut 1 d s.len s.cap) (l.drop d) ∧ (s.cut 1 d s.len s.cap).len ≤ (s.cut 1 d s.len s.cap).cap := by
  have h1 := h.1
  refine ⟨⟨?_, ?_⟩, ?_⟩
  · show s.len - d = _
    rw [List.length_drop]; omega
  · refine ⟨?_, fun j v hj => ?_⟩
    · rw [ints_len, List.length_drop]
      show _ = (s.len - d) * 1
      omega
    · have hjl : j < (l.drop d).length := by
        have := (List.getElem?_eq_some_iff.1 hj).1
        rw [ints_len] at this
        exact this
      rw [List.length_drop] at hjl
      obtain ⟨a, ha, hc'⟩ := h.2.2 (d + j) v (by
        rw [← hj]
        unfold ints
        rw [List.getElem?_map, List.getElem?_map, List.getElem?_drop])
      refine ⟨a.add d, ?_, by rw [add_add']; exact hc'⟩
      show (if s.cap = d then s.p else s.p.map (·.add (d * 1))) = _
      rw [if_neg (by omega), ha, Nat.mul_one]
      rfl
  · show s.len - d ≤ s.cap - d
    omega
end
/-! ### Segments -/
abbrev Sg : Type := Int × Int × Int × Int × Int × Int × Int
def sgrow (s : Sg) : List Value := [.int .i64 s.1, .int .i64 s.2.1, .int .i64 s.2.2.1, .int .i64 s.2.2.2.1, .int .i64 s.2.2.2.2.1, .int .i64 s.2.2.2.2.2.1, .int .i64 s.2.2.2.2.2.2]
abbrev sgs (L : List Sg) : List Value := L.flatMap sgrow
def sg0 : Sg := (0, 0, 0, 0, 0, 0, 0)
theorem elSg : El Tryd.prog 33 38 7 56 (.agg (sgrow sg0).toArray) := ⟨by kernel_rfl, by kernel_rfl, by kernel_rfl, by kernel_rfl, rfl⟩
theorem sg_one (s : Sg) : ∀ v ∈ sgrow s, v.oneCell' = true := by
  intro v hv
  simp only [sgrow, List.mem_cons, List.not_mem_nil, or_false] at hv
  rcases hv with rfl | rfl | rfl | rfl | rfl | rfl | rfl <;> rfl
theorem sgs_one (L : List Sg) : ∀ v ∈ sgs L, v.oneCell' = true := by
  intro v hv
  obtain ⟨o, _, h⟩ := List.mem_flatMap.1 hv
  exact sg_one o v h
theorem sgs_len (L : List Sg) : (sgs L).length = L.length * 7 := by
  induction L with
  | nil => rfl
  | cons o L ih => rw [sgs, List.flatMap_cons, List.length_append, ih, List.length_cons]; simp [sgrow]; omega
theorem sgs_get {L : List Sg} {i j : Nat} {o : Sg} (hi : L[i]? = some o) (hj : j < 7) : (sgs L)[i * 7 + j]? = (sgrow o)[j]? := by
  induction L generalizing i with
  | nil => cases hi
  | cons p L ih =>
    rw [sgs, List.flatMap_cons]
    cases i with
    | zero =>
      cases hi
      rw [Nat.zero_mul, Nat.zero_add, List.getElem?_append_left (by simp [sgrow]; omega)]
    | succ i =>
      rw [List.getElem?_append_right (by simp [sgrow]; omega), ← ih (by simpa using hi)]
      congr 1
      simp only [sgrow, List.length_cons, List.length_nil]
      omega
theorem sgs_app (L M : List Sg) : sgs (L ++ M) = sgs L ++ sgs M := List.flatMap_append
theorem sgs_sing (s : Sg) : sgs [s] = sgrow s := by simp [sgs]
/-- The segments of a slice. -/
def SV (w : World) (s : Slc) (L : List Sg) : Prop := s.len = L.length ∧ VRow w s 7 (sgs L)
section
variable {w w' w1 : World} {s : Slc} {L : List Sg}
theorem SV.keep (h : SV w s L) (he : Ext (fun _ => False) w w') : SV w' s L := ⟨h.1, h.2.keep he⟩
theorem SV.keepF {F : Nat → Prop} (h : SV w s L) (he : Ext F w w') (hF : ∀ j, s.own j → ¬ F j) : SV w' s L := ⟨h.1, h.2.keepF he hF⟩
theorem SV.nil (w : World) : SV w nilS [] := ⟨rfl, rfl, fun j v h => by cases h⟩
theorem SV.row {t : TypeId} (h : Row w s t 7 (sgs L)) : SV w s L := by
  refine ⟨?_, h.view⟩
  have := h.1
  rw [sgs_len] at this
  omega
theorem SV.get (h : SV w s L) {i : Nat} {o : Sg} (hi : L[i]? = some o) : ∃ a, s.p = some a ∧ ∀ j v, (sgrow o)[j]? = some v → w.cell? ((a.add (i * 7)).add j) = some v := by
  have hlt := (List.getElem?_eq_some_iff.1 hi).1
  obtain ⟨a, ha, _⟩ := h.2.2 (i * 7 + 0) _ (by rw [sgs_get hi (by omega)]; rfl)
  refine ⟨a, ha, fun j v hj => ?_⟩
  have hj7 : j < 7 := by
    have := (List.getElem?_eq_some_iff.1 hj).1
    simpa [sgrow] using this
  obtain ⟨a', ha', hc⟩ := h.2.2 (i * 7 + j) v (by rw [sgs_get hi hj7]; exact hj)
  rw [ha] at ha'
  cases ha'
  rw [add_add']
  exact hc
end
/-! ### What the pen draws -/
def pt (m : Mx) (x y : Int) : Option (Int × Int) := applyP m (x, y)
def mvS (p : Int × Int) : Sg := (1, 0, 0, 0, 0, p.1, p.2)
def lnS (p : Int × Int) : Sg := (2, 0, 0, 0, 0, p.1, p.2)
def cvS (a b c : Int × Int) : Sg := (3, a.1, a.2, b.1, b.2, c.1, c.2)
def clS : Sg := (4, 0, 0, 0, 0, 0, 0)
def sum2 (x y : Int) : Option Int := if (sumF [x, y]).2 = 0 then some (sumF [x, y]).1 else none
def rectF (m : Mx) (x y w h : Int) : Option (List Sg) := (sum2 x w).bind fun r => (sum2 y h).bind fun t => (pt m x y).bind fun p => (pt m r y).bind fun q => (pt m r t).bind fun u => (pt m x t).bind fun v => some [mvS p, lnS q, lnS u, lnS v, clS]
def drawF (nm : By) (m : Mx) (h : Int × Int) (l : List Int) : Option (List Sg) :=
  if nm = [109] then (pt m (l.getD 0 0) (l.getD 1 0)).bind fun p => some [mvS p]
  else if nm = [108] then (pt m (l.getD 0 0) (l.getD 1 0)).bind fun p => some [lnS p]
  else if nm = [99] then (pt m (l.getD 0 0) (l.getD 1 0)).bind fun p => (pt m (l.getD 2 0) (l.getD 3 0)).bind fun q => (pt m (l.getD 4 0) (l.getD 5 0)).bind fun r => some [cvS p q r]
  else if nm = [118] then (pt m (l.getD 0 0) (l.getD 1 0)).bind fun p => (pt m (l.getD 2 0) (l.getD 3 0)).bind fun q => some [cvS h p q]
  else if nm = [121] then (pt m (l.getD 0 0) (l.getD 1 0)).bind fun p => (pt m (l.getD 2 0) (l.getD 3 0)).bind fun q => some [cvS p q q]
  else if nm = [104] then some [clS]
  else if nm = [114, 101] then rectF m (l.getD 0 0) (l.getD 1 0) (l.getD 2 0) (l.getD 3 0)
  else some []
/-! ### The pen in memory -/
def gu (e : Int) : Value := .iface 70 (.agg #[.int .i64 e])
def pnrow (m : Mx) (ns : Slc) (h : Int × Int) (ps : Slc) : List Value := mrow m ++ [Slc.v ns, .int .i64 h.1, .int .i64 h.2, Slc.v ps]
structure Pn (w0 w : World) (g : Nat) (m : Mx) (ns : Slc) (l : List Int) (h : Int × Int) (ps : Slc) (T : List Sg) : Prop where
  blk : Blk w g (pnrow m ns h ps).toArray 77
  num : IV w ns l
  cap : ns.len ≤ ns.cap
  par : Row w ps 38 7 (sgs T)
  ng : g < w0.heap.size
  nown : ∀ j, ns.own j → j < w0.heap.size ∧ j ≠ g
  pown : ∀ j, ps.own j → w0.heap.size ≤ j
  ext : Ext (· = g) w0 w
section
variable {w0 w w' w1 : World} {g : Nat} {m : Mx} {ns ps : Slc} {l : List Int} {h : Int × Int} {T : List Sg}
theorem Pn.keep (H : Pn w0 w g m ns l h ps T) (he : Ext (fun _ => False) w w') : Pn w0 w' g m ns l h ps T :=
  ⟨he.blk H.blk id, H.num.keep he, H.cap, H.par.keep he fun _ _ e => e, H.ng, H.nown, H.pown, H.ext.tr (he.mono fun _ _ e => e.elim)⟩
theorem Pn.plen (H : Pn w0 w g m ns l h ps T) : ps.len = T.length := by
  have := H.par.1
  rw [sgs_len] at this
  omega
attribute [local irreducible] Ld Sh.St Nw Nn LdS
theorem c_need (b : Bool) (e : Int) (w : World) : C20 b e w (fun w1 => b = true ∧ w1 = w) fun v w1 => v = gu e ∧ b = false ∧ w1 = w := by
  refine T20 _ _ _ _ _ ?_
  unfold S20
  cases b
  · exact ⟨rfl, rfl, rfl⟩
  · exact ⟨rfl, rfl⟩
theorem c_mustI (x e : Int) (w : World) : C65 x e w (fun r w1 => e = 0 ∧ r = x ∧ w1 = w) fun v w1 => e ≠ 0 ∧ v = gu e ∧ w1 = w := by
  refine T65 _ _ _ _ _ ?_
  unfold S65
  refine (c_need _ e w).mono ?_ ?_
  · rintro w2 ⟨h, rfl⟩
    exact ⟨by simpa using h, rfl, rfl⟩
  · rintro v w2 ⟨rfl, h, rfl⟩
    exact ⟨by simpa using h, rfl, rfl⟩
theorem c_mustN (x : Slc) (e : Int) (w : World) : C25 x e w (fun r w1 => e = 0 ∧ r = x ∧ w1 = w) fun v w1 => e ≠ 0 ∧ v = gu e ∧ w1 = w := by
  refine T25 _ _ _ _ _ ?_
  unfold S25
  refine (c_need _ e w).mono ?_ ?_
  · rintro w2 ⟨h, rfl⟩
    exact ⟨by simpa using h, rfl, rfl⟩
  · rintro v w2 ⟨rfl, h, rfl⟩
    exact ⟨by simpa using h, rfl, rfl⟩
theorem c_mustP (x : Int × Int) (e : Int) (w : World) : C77 x e w (fun r w1 => e = 0 ∧ r = x ∧ Ext (fun _ => False) w w1) fun v w1 => e ≠ 0 ∧ v = gu e ∧ Ext (fun _ => False) w w1 := by
  refine T77 _ _ _ _ _ ?_
  unfold S77
  refine (Hn.start w).nw fun w2 H => ?_
  refine H.nw fun w3 H => ?_
  simp only [List.cons_append, List.nil_append, add_lit, Nat.zero_add] at H ⊢
  refine (c_need _ e _).mono ?_ ?_
  · rintro w4 ⟨h, rfl⟩
    iterate 2 refine H.ld 0 rfl rfl ?_
    iterate 2 (refine H.st 1 rfl (by simp) fun _ H => ?_; simp only [List.nil_append, List.cons_append, List.set_cons_zero, List.set_cons_succ, Nat.zero_add] at H)
    iterate 2 refine H.ld 1 rfl rfl ?_
    exact ⟨by simpa using h, rfl, H.ext⟩
  · rintro v w2 ⟨rfl, h, rfl⟩
    exact ⟨by simpa using h, rfl, H.ext⟩
theorem c_mustO (a d : ByteArray) (s : Slc) (e : Int) (w : World) : C22 (a, s, d) e w (fun r w1 => e = 0 ∧ Ext (fun _ => False) w w1) fun v w1 => e ≠ 0 ∧ v = gu e ∧ Ext (fun _ => False) w w1 := by
  refine T22 (a, s, d) _ _ _ _ ?_
  unfold S22
  refine (Hn.start w).nw fun w2 H => ?_
  refine H.nw fun w3 H => ?_
  simp only [List.cons_append, List.nil_append, add_lit, Nat.zero_add] at H ⊢
  refine (c_need _ e _).mono ?_ ?_
  · rintro w4 ⟨h, rfl⟩
    iterate 3 refine H.ld 0 rfl rfl ?_
    iterate 3 (refine H.st 1 rfl (by simp) fun _ H => ?_; simp only [List.nil_append, List.cons_append, List.set_cons_zero, List.set_cons_succ, Nat.zero_add] at H)
    iterate 3 refine H.ld 1 rfl rfl ?_
    exact ⟨by simpa using h, H.ext⟩
  · rintro v w2 ⟨rfl, h, rfl⟩
    exact ⟨by simpa using h, rfl, H.ext⟩
end
end Pat
end Go.Proofs.YtdchpkbpnfoknaaDoor

/- The pen walked: points, curves, rectangles. Conditions: sizes. -/
namespace Go.Proofs.YtdchpkbpnfoknaaDoor
namespace Pat
open Sh Mat Fix Opr
set_option linter.unusedVariables false
set_option linter.unusedSimpArgs false
set_option maxRecDepth 4000
set_option maxHeartbeats 4000000
theorem pn_set6 (m : Mx) (ns : Slc) (h : Int × Int) (ps : Slc) (v : Slc) : (pnrow m ns h ps).set 6 (Slc.v v) = pnrow m v h ps := rfl
theorem pn_set9 (m : Mx) (ns : Slc) (h : Int × Int) (ps : Slc) (v : Slc) : (pnrow m ns h ps).set 9 (Slc.v v) = pnrow m ns h v := rfl
theorem ldS_mk {α : Type} {S : World → Prop} {V : α → Value} {K : α → Prop} {x : α} {a : Addr} (h : ∀ w, S w → w.cell? a = some (V x)) (k : K x) : LdS S a V K := ⟨x, h, k⟩
section
variable {w0 w w' w1 : World} {g : Nat} {m : Mx} {ns ps : Slc} {l : List Int} {h : Int × Int} {T : List Sg}
theorem stB {b : Nat} {cs : List Value} {t : TypeId} {i : Nat} {v : Value} {R : World → Prop} (h : Blk w b cs.toArray t) (ho : i < cs.length) (k : ∀ w2, Blk w2 b (cs.set i v).toArray t → Ext (· = b) w w2 → R w2) : Sh.St w ⟨b, i, none⟩ v R := by
  unfold Sh.St
  refine ⟨h.can (by simpa using ho), k _ ?_ ((Ext.refl (· = b) w).set (.inl rfl) v)⟩
  have := h.set i v
  rwa [List.setIfInBounds_toArray] at this
theorem ldS_iv {s : Slc} {S : World → Prop} {w0 : World} {R : Int → Prop} {i : Nat} {ii : Int} (h0 : IV w0 s l) (hS : ∀ w', S w' → IV w' s l) (hi : i < l.length) (e : ii = (i : Int)) (k : R (l.getD i 0)) : 0 ≤ ii ∧ ii < (s.len : Nat) ∧ Nn s.p fun a => LdS S (a.add (ii.toNat * 1)) (Value.int .i64) R := by
  subst e
  obtain ⟨ad, ha, _⟩ := h0.get hi
  have hl := h0.1
  rw [ha, Int.toNat_natCast]
  refine ⟨by omega, by omega, Nn.of (ldS_mk (fun w' hw => ?_) k)⟩
  obtain ⟨ad', ha', hc⟩ := (hS w' hw).get hi
  rw [ha] at ha'
  cases ha'
  exact hc
theorem ld_iv {s : Slc} {R : Int → Prop} {i : Nat} {ii : Int} (h0 : IV w s l) (hi : i < l.length) (e : ii = (i : Int)) (k : R (l.getD i 0)) : 0 ≤ ii ∧ ii < (s.len : Nat) ∧ Nn s.p fun a => Ld w (a.add (ii.toNat * 1)) (Value.int .i64) R := by
  subst e
  obtain ⟨ad, ha, hc⟩ := h0.get hi
  have hl := h0.1
  rw [ha, Int.toNat_natCast]
  exact ⟨by omega, by omega, Nn.of (Ld.mk hc k)⟩
theorem Pn.st6 (H : Pn w0 w g m ns l h ps T) (hl : 2 ≤ l.length) {K : World → Prop} (k : ∀ w', Pn w0 w' g m (ns.cut 1 2 ns.len ns.cap) (l.drop 2) h ps T → Ext (· = g) w w' → K w') : Sh.St w ⟨g, 6, none⟩ (Slc.v (ns.cut 1 2 ns.len ns.cap)) K := by
  refine stB H.blk (by simp [pnrow, mrow]) fun w' hb he => k w' ⟨?_, ?_, (H.num.drop H.cap hl).2, H.par.keep he fun j hj e => ?_, H.ng, fun j hj => ?_, H.pown, H.ext.tr he⟩ he
  · rw [pn_set6] at hb
    exact hb
  · exact (H.num.keepF he fun j hj e => (H.nown j hj).2 e).drop H.cap hl |>.1
  · have e : j = g := e
    have := H.pown j hj
    have := H.ng
    omega
  · obtain ⟨a, ha, rfl⟩ := hj
    change (if ns.cap = 2 then ns.p else ns.p.map (·.add (2 * 1))) = _ at ha
    split at ha
    · exact H.nown _ ⟨a, ha, rfl⟩
    · cases hp : ns.p with
      | none => rw [hp] at ha; cases ha
      | some a' =>
        rw [hp] at ha
        cases ha
        exact H.nown _ ⟨a', hp, by rw [add_block]⟩
theorem Pn.other {wa : World} {ns' : Slc} {l' : List Int} {T' : List Sg} {h' : Int × Int} {F : Nat → Prop} (H : Pn w0 wa g m ns l h ps T) (H5 : Pn w0 w g m ns' l' h' ps T') (he : Ext F w w') (hF : ∀ j, F j → wa.heap.size ≤ j) : Pn w0 w' g m ns' l' h' ps T' := by
  have hg := H.blk.lt
  have hs := H.ext.size
  have h5 := H5.ng
  refine ⟨he.blk H5.blk fun e => by have := hF _ e; omega, H5.num.keepF he fun j hj e => by have := hF _ e; have := (H5.nown j hj).1; omega, H5.cap, H5.par.keep he fun j hj e => by have := hF _ e; have := H.par.own_lt hj; omega, H5.ng, H5.nown, H5.pown, H5.ext.trans he (fun _ e => e) fun j hj e => by have := hF _ e; omega⟩
attribute [local irreducible] Ld Sh.St Nw Nn LdS
theorem c_point (H : Pn w0 w g m ns l h ps T) (x y : Int) : C64 (some ⟨g, 0, none⟩) x y w (fun r w1 => pt m x y = some r ∧ Ext (fun _ => False) w w1) fun v w1 => v = gu 2 ∧ pt m x y = none ∧ Ext (fun _ => False) w w1 := by
  refine T64 _ _ _ _ _ _ ?_
  unfold S64
  refine (Hn.start w).nw fun w2 H2 => ?_
  simp only [List.nil_append, add_lit, Nat.zero_add] at H2 ⊢
  have hb := (H.keep H2.ext).blk
  refine Nn.of ?_
  iterate 6 refine Ld.of hb rfl ?_
  refine (c_apply m (x, y) _).mono ?_
  rintro r e w3 ⟨hr, e3⟩
  have H2 := H2.keep e3
  refine (c_mustP r e _).mono ?_ ?_
  · rintro r w4 ⟨rfl, rfl, e4⟩
    have H2 := H2.keep e4
    iterate 2 (refine H2.st 0 rfl (by simp) fun _ H2 => ?_; simp only [List.set_cons_zero, List.set_cons_succ] at H2)
    iterate 2 refine H2.ld 0 rfl rfl ?_
    refine ⟨?_, H2.ext⟩
    show applyP m (x, y) = _
    cases hm : applyP m (x, y) with
    | none => rw [hm] at hr; cases hr
    | some p => rw [hm] at hr; cases hr; rfl
  · rintro v w4 ⟨hne, rfl, e4⟩
    have H2 := H2.keep e4
    have : applyP m (x, y) = none ∧ e = 2 := by
      cases hm : applyP m (x, y) with
      | none => rw [hm] at hr; cases hr; exact ⟨rfl, rfl⟩
      | some p => rw [hm] at hr; cases hr; exact absurd rfl hne
    exact ⟨by rw [this.2], this.1, H2.ext⟩
theorem c_next (H : Pn w0 w g m ns l h ps T) (hl : 2 ≤ l.length) : C48 (some ⟨g, 0, none⟩) w (fun r w1 => pt m (l.getD 0 0) (l.getD 1 0) = some r ∧ Pn w0 w1 g m (ns.cut 1 2 ns.len ns.cap) (l.drop 2) h ps T ∧ Ext (· = g) w w1) fun v w1 => v = gu 2 ∧ pt m (l.getD 0 0) (l.getD 1 0) = none ∧ Ext (· = g) w w1 := by
  refine T48 _ _ _ _ ?_
  unfold S48
  have hgw := H.blk.lt
  refine (Hn.start w).nw fun w2 H2 => ?_
  simp only [List.nil_append, add_lit, Nat.zero_add] at H2 ⊢
  have H2 := H2.drew
  have P2 := H.keep H2.ext
  have hlen := H.num.1
  refine ⟨fun w' => Blk w' g (pnrow m ns h ps).toArray 77 ∧ IV w' ns l, ⟨P2.blk, P2.num⟩, Nn.of ?_⟩
  refine LdS.of (fun w' h' => h'.1) rfl ?_
  refine ldS_iv (i := 0) P2.num (fun w' h' => h'.2) (by omega) rfl (Nn.of ?_)
  refine LdS.of (fun w' h' => h'.1) rfl ?_
  refine ldS_iv (i := 1) P2.num (fun w' h' => h'.2) (by omega) rfl ?_
  have weak : ∀ {a b : World}, Ext (fun _ => False) a b → Ext (· = g) a b := fun e => e.mono fun _ _ e => e.elim
  refine ⟨?_, ?_⟩
  · refine (c_point P2 _ _).mono ?_ ?_
    · rintro r w3 ⟨hr, e3⟩
      have H3 := H2.keep e3
      refine H3.nw fun w4 H4 => ?_
      simp only [List.cons_append, List.nil_append] at H4
      iterate 2 (refine H4.st 1 rfl (by simp) fun _ H4 => ?_; simp only [List.set_cons_zero, List.set_cons_succ] at H4)
      refine Nn.of ?_
      have P4 := H.keep H4.ext
      refine Ld.of P4.blk rfl ⟨by omega, by omega, Nn.of ?_⟩
      refine P4.st6 hl fun w5 P5 e5 => ?_
      have b0 := e5.blk (H4.get 0 rfl) (by have := H4.ge 0 rfl; omega)
      have b1 := e5.blk (H4.get 1 rfl) (by have := H4.ge 1 rfl; omega)
      refine Ld.of b1 rfl (Ld.of b1 rfl ?_)
      refine stB b0 (by simp) fun w6 b6 e6 => ?_
      refine stB b6 (by simp) fun w7 b7 e7 => ?_
      refine Ld.of b7 rfl (Ld.of b7 rfl ?_)
      have e67 := e6.tr e7
      exact ⟨hr, H.other P5 e67 fun j hj => by omega, ((weak H4.ext).tr e5).trans e67 (fun _ e => e) fun j hj e => by omega⟩
    · rintro v w3 ⟨rfl, hr, e3⟩
      exact ⟨rfl, hr, weak (H2.ext.tr e3)⟩
  · refine H2.nw fun w3 H3 => ?_
    simp only [List.cons_append, List.nil_append] at H3
    have P3 := H.keep H3.ext
    refine ⟨⟨P3.blk, P3.num⟩, (c_point P3 _ _).mono ?_ ?_⟩
    · rintro r w4 ⟨hr, e3⟩
      have H4 := H3.keep e3
      iterate 2 (refine H4.st 1 rfl (by simp) fun _ H4 => ?_; simp only [List.set_cons_zero, List.set_cons_succ] at H4)
      refine Nn.of ?_
      have P4 := H.keep H4.ext
      refine Ld.of P4.blk rfl ⟨by omega, by omega, Nn.of ?_⟩
      refine P4.st6 hl fun w5 P5 e5 => ?_
      have b0 := e5.blk (H4.get 0 rfl) (by have := H4.ge 0 rfl; omega)
      have b1 := e5.blk (H4.get 1 rfl) (by have := H4.ge 1 rfl; omega)
      refine Ld.of b1 rfl (Ld.of b1 rfl ?_)
      refine stB b0 (by simp) fun w6 b6 e6 => ?_
      refine stB b6 (by simp) fun w7 b7 e7 => ?_
      refine Ld.of b7 rfl (Ld.of b7 rfl ?_)
      have e67 := e6.tr e7
      exact ⟨hr, H.other P5 e67 fun j hj => by omega, ((weak H4.ext).tr e5).trans e67 (fun _ e => e) fun j hj e => by omega⟩
    · rintro v w3 ⟨rfl, hr, e3⟩
      exact ⟨rfl, hr, weak (H3.ext.tr e3)⟩
theorem c_put (H : Pn w0 w g m ns l h ps T) (hT : T.length ≤ 1000) (s : Sg) : C47 (some ⟨g, 0, none⟩) s w fun w1 => ∃ ps', Pn w0 w1 g m ns l h ps' (T ++ [s]) := by
  refine T47 _ s _ _ ?_
  unfold S47
  refine (Hn.start w).nw fun w2 H2 => ?_
  simp only [List.nil_append, add_lit, Nat.zero_add] at H2 ⊢
  have H2 := H2.drew
  have P2 := H.keep H2.ext
  refine ⟨fun w' => Blk w' g (pnrow m ns h ps).toArray 77 ∧ Blk w' w.heap.size (sgrow s).toArray 38, ⟨P2.blk, H2.get 0 rfl⟩, Nn.of ?_⟩
  refine LdS.of (fun w' h' => h'.1) rfl ?_
  iterate 7 refine LdS.of (fun w' h' => h'.2) rfl ?_
  refine H2.nw (cs := sgrow s) fun w3 H3 => ?_
  have P3 := H.keep H3.ext
  have hb := H3.get 1 rfl
  refine ⟨⟨P3.blk, H3.get 0 rfl⟩, ?_⟩
  have hpl := P3.plen
  obtain ⟨s', w4, r1, r2, r3, e4, r5⟩ := elSg.app1 (ty := 33) P3.par hb rfl (sg_one s) (by omega) (by omega)
  refine ⟨s', w4, r1, Nn.of ?_⟩
  have hg := P3.ng
  have hgs := H.ext.size
  have hs3 := H3.size
  have nog : ∀ j, ps.own j → ¬ (j = g) := fun j hj e => by have := P3.pown j hj; omega
  refine stB (e4.blk P3.blk fun hj => nog _ hj rfl) (by simp [pnrow, mrow]) fun w5 b5 e5 => ?_
  rw [pn_set9] at b5
  have own' : ∀ j, s'.own j → w0.heap.size ≤ j := fun j hj => by
    rcases r5 j hj with hh | hh
    · exact P3.pown j hh
    · have := P3.ext.size; omega
  refine ⟨s', b5, ?_, P3.cap, ?_, P3.ng, P3.nown, own', ?_⟩
  · refine (P3.num.keepF e4 fun j hj e => ?_).keepF e5 fun j hj e => (P3.nown j hj).2 e
    have := (P3.nown j hj).1
    have := P3.pown j e
    omega
  · rw [sgs_app, sgs_sing]
    exact r2.keep e5 fun j hj e => by have e : j = g := e; have := own' j hj; omega
  · exact (P3.ext.trans e4 (fun _ e => e) fun j hj e => by have := P3.pown j e; omega).tr e5
theorem c_curve (H : Pn w0 w g m ns l h ps T) (hT : T.length ≤ 1000) (a b c : Int × Int) : C49 (some ⟨g, 0, none⟩) a b c w fun w1 => ∃ ps', Pn w0 w1 g m ns l h ps' (T ++ [cvS a b c]) := by
  refine T49 _ a b c _ _ ?_
  unfold S49
  refine (Hn.start w).nw fun w2 H2 => ?_
  refine H2.nw fun w3 H2 => ?_
  refine H2.nw fun w4 H2 => ?_
  simp only [List.cons_append, List.nil_append, add_lit, Nat.zero_add] at H2 ⊢
  iterate 2 refine H2.ld 0 rfl rfl ?_
  iterate 2 refine H2.ld 1 rfl rfl ?_
  iterate 2 refine H2.ld 2 rfl rfl ?_
  exact c_put (H.keep H2.ext) hT (cvS a b c)
end
end Pat
end Go.Proofs.YtdchpkbpnfoknaaDoor

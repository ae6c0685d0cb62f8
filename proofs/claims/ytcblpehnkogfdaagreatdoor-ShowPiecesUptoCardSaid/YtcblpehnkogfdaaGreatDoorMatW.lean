/- Package matrix: products, images, lengths and boxes, of the program. No condition. -/
import Derived.Test.YtcblpehnkogfdaaGreatDoorFix
import Derived.Test.YtcblpehnkogfdaaGreatDoorFnMat
namespace Go.Proofs.YtcblpehnkogfdaaGreatDoor
namespace Mat
open Sh Fix
set_option linter.unusedVariables false
set_option linter.unusedSimpArgs false
set_option maxRecDepth 4000

abbrev Mx := Int × Int × Int × Int × Int × Int
def comps (m : Mx) : List Int := [m.1, m.2.1, m.2.2.1, m.2.2.2.1, m.2.2.2.2.1, m.2.2.2.2.2]
def okM (m : Mx) : Bool := (comps m).all inW
def mrow (m : Mx) : List Value := [.int .i64 m.1, .int .i64 m.2.1, .int .i64 m.2.2.1, .int .i64 m.2.2.2.1, .int .i64 m.2.2.2.2.1, .int .i64 m.2.2.2.2.2]
/-- The product: a, then b. -/
def mulP (a b : Mx) : Option Mx := if okM a = true ∧ okM b = true then
    (dotP [a.1, b.1, a.2.1, b.2.2.1]).bind fun p => (dotP [a.1, b.2.1, a.2.1, b.2.2.2.1]).bind fun q => (dotP [a.2.2.1, b.1, a.2.2.2.1, b.2.2.1]).bind fun r => (dotP [a.2.2.1, b.2.1, a.2.2.2.1, b.2.2.2.1]).bind fun s =>
    (dotP [a.2.2.2.2.1, b.1, a.2.2.2.2.2, b.2.2.1, b.2.2.2.2.1, 10000]).bind fun t => (dotP [a.2.2.2.2.1, b.2.1, a.2.2.2.2.2, b.2.2.2.1, b.2.2.2.2.2, 10000]).bind fun u => some (p, q, r, s, t, u)
  else none
def resM : Option Mx → Mx × Int
  | some m => (m, 0)
  | none => ((0, 0, 0, 0, 0, 0), 2)
def applyP (m : Mx) (p : Int × Int) : Option (Int × Int) := if okM m = true ∧ inW p.1 = true ∧ inW p.2 = true then
    (dotP [p.1, m.1, p.2, m.2.2.1, m.2.2.2.2.1, 10000]).bind fun x => (dotP [p.1, m.2.1, p.2, m.2.2.2.1, m.2.2.2.2.2, 10000]).bind fun y => some (x, y)
  else none
def resP : Option (Int × Int) → (Int × Int) × Int
  | some p => (p, 0)
  | none => ((0, 0), 2)
theorem row4 {w : World} {b : Nat} {t : TypeId} {x0 x1 x2 x3 : Int} (h : Blk w b #[.int .i64 x0, .int .i64 x1, .int .i64 x2, .int .i64 x3] t) : IRow w ⟨some ⟨b, 0, none⟩, 4, 4⟩ [x0, x1, x2, x3] :=
  IRow.of h rfl fun i hi => by
    have : i = 0 ∨ i = 1 ∨ i = 2 ∨ i = 3 := by simp at hi; omega
    rcases this with rfl | rfl | rfl | rfl <;> rfl
theorem row6 {w : World} {b : Nat} {t : TypeId} {x0 x1 x2 x3 x4 x5 : Int} (h : Blk w b #[.int .i64 x0, .int .i64 x1, .int .i64 x2, .int .i64 x3, .int .i64 x4, .int .i64 x5] t) : IRow w ⟨some ⟨b, 0, none⟩, 6, 6⟩ [x0, x1, x2, x3, x4, x5] :=
  IRow.of h rfl fun i hi => by
    have : i = 0 ∨ i = 1 ∨ i = 2 ∨ i = 3 ∨ i = 4 ∨ i = 5 := by simp at hi; omega
    rcases this with rfl | rfl | rfl | rfl | rfl | rfl <;> rfl
theorem dotP_in {l : List Int} {n : Int} (h : dotP l = some n) : inW n = true := by
  unfold dotP at h
  split at h
  · rename_i h2; cases h; exact h2.2
  · cases h
theorem c_out (n : Int) (w : World) : C94 n w fun r w1 => r = (!inW n) ∧ w1 = w := by
  refine T94 _ _ _ ?_
  unfold S94
  refine Br.dec (fun h => ⟨?_, rfl⟩) fun h => ⟨?_, rfl⟩
  · rw [inW_no.2 (by omega)]; rfl
  · by_cases h2 : n > 1073741824
    · rw [inW_no.2 (by omega), decide_eq_true h2]; rfl
    · rw [inW_spec.2 (by omega), decide_eq_false h2]; rfl
/-- The panic of this package. -/
def gup (e : Int) : Value := .iface 191 (.agg #[.int .i64 e])
theorem c_need (e : Int) (w : World) : C134 e w (fun w1 => e = 0 ∧ w1 = w) fun v w1 => v = gup e ∧ e ≠ 0 ∧ w1 = w := by
  refine T134 _ _ _ _ ?_
  unfold S134
  exact Br.ne (fun h => ⟨rfl, h, rfl⟩) fun h => ⟨h, rfl⟩
theorem c_dot {s : Slc} {l : List Int} {w : World} (h : IRow w s l) (hl : l.length = 4 ∨ l.length = 6) : C135 s w (fun r w1 => dotP l = some r ∧ Ext (fun _ => False) w w1) fun v w1 => v = gup 2 ∧ dotP l = none ∧ Ext (fun _ => False) w w1 := by
  refine T135 _ _ _ _ ?_
  unfold S135
  refine (Fix.c_dot h (by omega)).mono ?_
  rintro r e w1 ⟨h1, he⟩
  have hd : dotF l = match dotP l with
    | some n => (n, 0)
    | none => (0, 2) := if_neg (by omega)
  rw [hd] at h1
  cases hp : dotP l with
  | none =>
    rw [hp] at h1
    cases h1
    refine (c_need _ _).mono (fun w2 h => absurd h.1 (by omega)) fun v w2 h => ⟨h.1, rfl, ?_⟩
    obtain ⟨_, _, rfl⟩ := h
    exact he
  | some n =>
    rw [hp] at h1
    cases h1
    refine (c_need _ _).mono (fun w2 h => ?_) fun v w2 h => absurd rfl h.2.1
    obtain ⟨_, rfl⟩ := h
    refine (c_out _ _).mono ?_
    rintro b _ ⟨rfl, rfl⟩
    rw [dotP_in hp]
    exact ⟨rfl, he⟩
theorem c_parts {w0 w : World} {L : List (Nat × List Value × TypeId)} {b : Nat} (h : Hn w0 w L) : C93 (some (⟨b, 0, none⟩ : Addr)) w fun r w1 => r = (some (⟨b, 0, none⟩ : Addr), some (⟨b, 1, none⟩ : Addr), some (⟨b, 2, none⟩ : Addr), some (⟨b, 3, none⟩ : Addr), some (⟨b, 4, none⟩ : Addr), some (⟨b, 5, none⟩ : Addr)) ∧ Ext (fun _ => False) w w1 := by
  refine T93 _ _ _ ?_
  unfold S93
  refine (Hn.start w).nw fun w2 H => ?_
  have H := H.drew
  simp only [add_lit]
  refine Nn.of (Nn.of (Nn.of (Nn.of (Nn.of (Nn.of ?_)))))
  simp only [add_lit, Nat.zero_add]
  refine H.st 0 rfl (by simp) fun _ H => ?_
  refine H.st 0 rfl (by simp) fun _ H => ?_
  refine H.st 0 rfl (by simp) fun _ H => ?_
  refine H.st 0 rfl (by simp) fun _ H => ?_
  refine H.st 0 rfl (by simp) fun _ H => ?_
  refine H.st 0 rfl (by simp) fun _ H => ?_
  refine H.ld 0 rfl rfl ?_
  refine H.ld 0 rfl rfl ?_
  refine H.ld 0 rfl rfl ?_
  refine H.ld 0 rfl rfl ?_
  refine H.ld 0 rfl rfl ?_
  refine H.ld 0 rfl rfl ?_
  exact ⟨rfl, H.ext⟩
theorem c_check (m : Mx) (w : World) : C57 m w fun r w1 => r = (if okM m = true then 0 else 2) ∧ Ext (fun _ => False) w w1 := by
  refine T57 _ _ _ ?_
  unfold S57
  refine (Hn.start w).nw fun w2 H => (c_parts H).mono ?_
  rintro r w3 ⟨rfl, he⟩
  have H := H.keep he
  refine ⟨fun n st w4 => ∃ i : Nat, st = (i : Int) ∧ i ≤ 6 ∧ n = 6 - i ∧ w4 = w3 ∧ ∀ j, j < i → inW ((comps m).getD j 0) = true, 6, ⟨0, rfl, by omega, rfl, rfl, fun j hj => by omega⟩, ?_⟩
  rintro n st w4 ⟨i, rfl, hi, rfl, rfl, hall⟩
  unfold S57L1
  refine Br.dec (fun e => ⟨by omega, by omega, ?_⟩) fun e => ⟨?_, H.ext⟩
  · have fin : ∀ x : Int, (comps m).getD i 0 = x → C94 x w4 fun r11 vw12 => Br r11 ((2 : Int) = (if okM m = true then 0 else 2) ∧ Ext (fun _ => False) w vw12) (∃ n', n' < 6 - i ∧ ∃ i' : Nat, IntKind.i64.wrap ((i : Int) + 1) = (i' : Int) ∧ i' ≤ 6 ∧ n' = 6 - i' ∧ vw12 = w4 ∧ ∀ j, j < i' → inW ((comps m).getD j 0) = true) := fun x hx => by
      refine (c_out _ _).mono ?_
      rintro r _ ⟨rfl, rfl⟩
      cases hw : inW x with
      | true =>
        refine ⟨6 - (i + 1), by omega, i + 1, by rw [i64_id (by omega)]; rfl, by omega, rfl, rfl, fun j hj => ?_⟩
        by_cases hji : j = i
        · rw [hji, hx]; exact hw
        · exact hall j (by omega)
      | false =>
        refine ⟨?_, H.ext⟩
        rw [if_neg]
        intro hm
        have := (all_iff _).1 hm i (by show i < 6; omega)
        rw [hx, hw] at this
        cases this
    have hc : i = 0 ∨ i = 1 ∨ i = 2 ∨ i = 3 ∨ i = 4 ∨ i = 5 := by omega
    rcases hc with rfl | rfl | rfl | rfl | rfl | rfl <;> exact ⟨_, rfl, Nn.of (H.ld 0 rfl rfl (fin _ (by rfl)))⟩
  · rw [if_pos]
    exact (all_iff _).2 fun j hj => hall j (by have : j < 6 := hj; omega)
theorem c_caught_nil (a : Option Addr) (w : World) : C133 Value.nilIface a w (fun w1 => w1 = w) fun _ _ => False := by
  refine T133_nil _ _ _ _ ?_
  unfold S133_nil
  rfl
theorem c_caught {w0 w : World} {L : List (Nat × List Value × TypeId)} {b o : Nat} {cs : List Value} {t : TypeId} (H : Hn w0 w L) (e : Int) (i : Nat) (hi : L[i]? = some (b, cs, t)) (ho : o < cs.length) :
    C133 (gup e) (some ⟨b, o, none⟩) w (fun w1 => Hn w0 w1 (L.set i (b, cs.set o (.int .i64 e), t))) fun _ _ => False := by
  refine T133_T191 _ _ _ _ _ ?_
  unfold S133_T191
  have hi' : (L ++ [(w.heap.size, [.int .i64 0], 191)])[i]? = some (b, cs, t) := by
    rw [List.getElem?_append_left (List.getElem?_eq_some_iff.1 hi).1]; exact hi
  have hl : (L ++ [(w.heap.size, [.int .i64 0], 191)])[L.length]? = some (w.heap.size, [.int .i64 0], 191) := by simp
  refine H.nw' fun w2 H2 he2 => ?_
  refine H2.st' L.length hl (by simp) fun w3 H3 he3 => ?_
  have hlen : L.length < (L ++ [(w.heap.size, [Value.int .i64 0], 191)]).length := by simp
  refine H3.ld L.length (by rw [List.getElem?_set_self hlen]) rfl (Nn.of ?_)
  have H4 := H.keep he2
  have H5 := H4.other he3 (fun j hj => ⟨by rw [hj]; exact H.size, fun hm => by
    have := H.all_lt hm
    omega⟩)
  exact H5.st i hi ho fun w4 H6 => H6
section
variable {w0 w : World}
/-- What Mul's deferred call leaves. -/
theorem c_mulD (a b p : Mx) (e : Int) {L : List (Nat × List Value × TypeId)} {b1 b2 : Nat} {t1 t2 : TypeId} {R : World → Prop}
    (H : Hn w0 w L) (i j : Nat) (hi : L[i]? = some (b2, mrow p, t2)) (hj : L[j]? = some (b1, [.int .i64 e], t1)) (he : e = 0)
    (k : R w) : CD132 (⟨b1, 0, none⟩ : Addr) (⟨b2, 0, none⟩ : Addr) none w R := by
  refine T132_nil _ _ _ _ ?_
  unfold S132_nil
  refine (c_caught_nil _ _).mono (fun w1 h => ?_) fun _ _ h => h.elim
  subst h
  refine H.ld j hj rfl ?_
  exact Br.ne (fun h => absurd he h) fun _ => k
theorem c_mul (a b : Mx) (w : World) : C115 a b w fun r e w1 => (r, e) = resM (mulP a b) ∧ Ext (fun _ => False) w w1 := by
  refine T115 _ _ _ _ ?_
  unfold S115
  refine (Hn.start w).nw fun w3 H => H.nw fun w4 H => H.nw fun w5 H => H.nw fun w6 H => ?_
  have caught : ∀ (p : Mx) (c : Int) (v : Value) (w7 : World), Hn w w7 [(w.heap.size, mrow a, 24), (w3.heap.size, mrow b, 24), (w4.heap.size, mrow p, 24), (w5.heap.size, [.int .i64 c], 43)] → v = gup 2 → mulP a b = none →
      S115P w4 w5 (fun r e w1 => (r, e) = resM (mulP a b) ∧ Ext (fun _ => False) w w1) v w7 := fun p c v w7 H hv hm => by
    subst hv
    unfold S115P
    refine T132_T191 _ _ 2 _ _ ?_
    unfold S132_T191
    refine (c_caught H 2 3 rfl (by simp)).mono (fun w8 H => ?_) fun _ _ h => h.elim
    refine H.ld 3 rfl rfl (Br.ne (fun _ => ?_) fun h => by cases h)
    refine H.st 2 rfl (by simp [mrow]) fun _ H => H.st 2 rfl (by simp [mrow]) fun _ H => H.st 2 rfl (by simp [mrow]) fun _ H => H.st 2 rfl (by simp [mrow]) fun _ H => H.st 2 rfl (by simp [mrow]) fun _ H => H.st 2 rfl (by simp [mrow]) fun _ H => ?_
    refine H.ld 2 rfl rfl (H.ld 2 rfl rfl (H.ld 2 rfl rfl (H.ld 2 rfl rfl (H.ld 2 rfl rfl (H.ld 2 rfl rfl (H.ld 3 rfl rfl ⟨?_, H.ext⟩))))))
    rw [hm]
    rfl
  have no : ∀ {w7 : World} {v : Value}, Ext (fun _ => False) w6 w7 → v = gup 2 → mulP a b = none → S115P w4 w5 (fun r e w1 => (r, e) = resM (mulP a b) ∧ Ext (fun _ => False) w w1) v w7 := fun he hv hm => caught (0, 0, 0, 0, 0, 0) 0 _ _ (H.keep he) hv hm
  repeat (first | refine H.ld 0 rfl rfl ?_ | refine H.ld 1 rfl rfl ?_ | refine H.ld 2 rfl rfl ?_ | refine H.ld 3 rfl rfl ?_ | refine H.ld 4 rfl rfl ?_ | refine H.ld 5 rfl rfl ?_)
  refine (c_check a _).mono ?_
  rintro r w7 ⟨rfl, he⟩
  have e7 := he
  have H := H.keep he
  refine (c_need _ _).mono (fun w8 h8 => ?_) fun v w8 h8 => ?_
  case refine_2 =>
    obtain ⟨hv, hne, rfl⟩ := h8
    have hka : ¬ okM a = true := fun h => hne (if_pos h)
    rw [if_neg hka] at hv
    exact no e7 hv (if_neg fun h => hka h.1)
  obtain ⟨hz, rfl⟩ := h8
  have hka : okM a = true := by
    refine Decidable.byContradiction fun h => ?_
    rw [if_neg h] at hz
    cases hz
  repeat (first | refine H.ld 0 rfl rfl ?_ | refine H.ld 1 rfl rfl ?_ | refine H.ld 2 rfl rfl ?_ | refine H.ld 3 rfl rfl ?_ | refine H.ld 4 rfl rfl ?_ | refine H.ld 5 rfl rfl ?_)
  refine (c_check b _).mono ?_
  rintro r w9 ⟨rfl, he⟩
  have e9 := e7.tr he
  have H := H.keep he
  refine (c_need _ _).mono (fun w10 h8 => ?_) fun v w10 h8 => ?_
  case refine_2 =>
    obtain ⟨hv, hne, rfl⟩ := h8
    have hkb : ¬ okM b = true := fun h => hne (if_pos h)
    rw [if_neg hkb] at hv
    exact no e9 hv (if_neg fun h => hkb h.2)
  obtain ⟨hz, rfl⟩ := h8
  have hkb : okM b = true := by
    refine Decidable.byContradiction fun h => ?_
    rw [if_neg h] at hz
    cases hz
  have HD := H.drew
  have eD := e9.drew
  have hmul : mulP a b = (dotP [a.1, b.1, a.2.1, b.2.2.1]).bind fun p => (dotP [a.1, b.2.1, a.2.1, b.2.2.2.1]).bind fun q => (dotP [a.2.2.1, b.1, a.2.2.2.1, b.2.2.1]).bind fun r => (dotP [a.2.2.1, b.2.1, a.2.2.2.1, b.2.2.2.1]).bind fun s =>
    (dotP [a.2.2.2.2.1, b.1, a.2.2.2.2.2, b.2.2.1, b.2.2.2.2.1, 10000]).bind fun t => (dotP [a.2.2.2.2.1, b.2.1, a.2.2.2.2.2, b.2.2.2.1, b.2.2.2.2.2, 10000]).bind fun u => some (p, q, r, s, t, u) := if_pos ⟨hka, hkb⟩
  have bnone : ∀ {α β : Type} (x : Option α), (x.bind fun _ => (none : Option β)) = none := fun x => by cases x <;> rfl
  have no' : ∀ {w11 w12 : World} {v : Value}, Ext (fun _ => False) w10.drew w11 → Ext (fun _ => False) w11 w12 → v = gup 2 → mulP a b = none → S115P w4 w5 (fun r e w1 => (r, e) = resM (mulP a b) ∧ Ext (fun _ => False) w w1) v w12 := fun h1 h2 hv hm => no ((eD.tr h1).tr h2) hv hm
  have hS0 : ∀ w11, Ext (fun _ => False) w10.drew w11 → Blk w11 w.heap.size (mrow a).toArray 24 := fun w11 h => (HD.keep h).get 0 rfl
  have hS1 : ∀ w11, Ext (fun _ => False) w10.drew w11 → Blk w11 w3.heap.size (mrow b).toArray 24 := fun w11 h => (HD.keep h).get 1 rfl
  refine ⟨fun w11 => Ext (fun _ => False) w10.drew w11, Ext.refl _ _, ?_⟩
  repeat (first | refine LdS.of hS0 rfl ?_ | refine LdS.of hS1 rfl ?_)
  have eN : ∀ (w11 : World) (o : Obj), Ext (fun _ => False) w11 (w11.alloc o) := fun w11 o => (Ext.refl _ _).alloc o
  refine ⟨fun a b => Ext (fun _ => False) a b, fun _ => True, trivial,
    fun x w' => IRow w' x [a.1, b.1, a.2.1, b.2.2.1], fun x _ _ h h2 => h2.keep h, fun x _ => dotP [a.1, b.1, a.2.1, b.2.2.1] = some x, fun _ _ _ _ h => h,
    fun x w' => IRow w' x [a.1, b.2.1, a.2.1, b.2.2.2.1], fun x _ _ h h2 => h2.keep h, fun x _ => dotP [a.1, b.2.1, a.2.1, b.2.2.2.1] = some x, fun _ _ _ _ h => h,
    fun x w' => IRow w' x [a.2.2.1, b.1, a.2.2.2.1, b.2.2.1], fun x _ _ h h2 => h2.keep h, fun x _ => dotP [a.2.2.1, b.1, a.2.2.2.1, b.2.2.1] = some x, fun _ _ _ _ h => h,
    fun x w' => IRow w' x [a.2.2.1, b.2.1, a.2.2.2.1, b.2.2.2.1], fun x _ _ h h2 => h2.keep h, fun x _ => dotP [a.2.2.1, b.2.1, a.2.2.2.1, b.2.2.2.1] = some x, fun _ _ _ _ h => h,
    fun x w' => IRow w' x [a.2.2.2.2.1, b.1, a.2.2.2.2.2, b.2.2.1, b.2.2.2.2.1, 10000], fun x _ _ h h2 => h2.keep h, fun x _ => dotP [a.2.2.2.2.1, b.1, a.2.2.2.2.2, b.2.2.1, b.2.2.2.2.1, 10000] = some x, fun _ _ _ _ h => h,
    fun x w' => IRow w' x [a.2.2.2.2.1, b.2.1, a.2.2.2.2.2, b.2.2.2.1, b.2.2.2.2.2, 10000], fun x _ _ h h2 => h2.keep h, ⟨?n1, ?c1, ?n2, ?c2, ?n3, ?c3, ?n4, ?c4, ?n5, ?c5, ?n6, trivial⟩, ?fin⟩
  case n1 => exact fun w11 h _ => ⟨h.tr (eN _ _), trivial, eN _ _, _, rfl, row4 (Blk.new _ _ _)⟩
  case n2 => exact fun w11 h _ => ⟨h.tr (eN _ _), trivial, eN _ _, _, rfl, row4 (Blk.new _ _ _)⟩
  case n3 => exact fun w11 h _ => ⟨h.tr (eN _ _), trivial, eN _ _, _, rfl, row4 (Blk.new _ _ _)⟩
  case n4 => exact fun w11 h _ => ⟨h.tr (eN _ _), trivial, eN _ _, _, rfl, row4 (Blk.new _ _ _)⟩
  case n5 => exact fun w11 h _ => ⟨h.tr (eN _ _), trivial, eN _ _, _, rfl, row6 (Blk.new _ _ _)⟩
  case n6 => exact fun w11 h _ => ⟨h.tr (eN _ _), trivial, eN _ _, _, rfl, row6 (Blk.new _ _ _)⟩
  case c1 => exact fun w11 h _ x hx => (c_dot hx (.inl rfl)).mono (fun r w12 h2 => ⟨h.tr h2.2, trivial, h2.2, r, rfl, h2.1⟩) fun v w12 h2 => no' h h2.2.2 h2.1 (by rw [hmul, h2.2.1]; rfl)
  case c2 => exact fun w11 h _ x hx => (c_dot hx (.inl rfl)).mono (fun r w12 h2 => ⟨h.tr h2.2, trivial, h2.2, r, rfl, h2.1⟩) fun v w12 h2 => no' h h2.2.2 h2.1 (by rw [hmul, h2.2.1]; simp [bnone])
  case c3 => exact fun w11 h _ x hx => (c_dot hx (.inl rfl)).mono (fun r w12 h2 => ⟨h.tr h2.2, trivial, h2.2, r, rfl, h2.1⟩) fun v w12 h2 => no' h h2.2.2 h2.1 (by rw [hmul, h2.2.1]; simp [bnone])
  case c4 => exact fun w11 h _ x hx => (c_dot hx (.inl rfl)).mono (fun r w12 h2 => ⟨h.tr h2.2, trivial, h2.2, r, rfl, h2.1⟩) fun v w12 h2 => no' h h2.2.2 h2.1 (by rw [hmul, h2.2.1]; simp [bnone])
  case c5 => exact fun w11 h _ x hx => (c_dot hx (.inr rfl)).mono (fun r w12 h2 => ⟨h.tr h2.2, trivial, h2.2, r, rfl, h2.1⟩) fun v w12 h2 => no' h h2.2.2 h2.1 (by rw [hmul, h2.2.1]; simp [bnone])
  case fin =>
    intro w11 h _ _ _ x1 h1 _ _ x2 h2 _ _ x3 h3 _ _ x4 h4 _ _ x5 h5 _ hx6
    refine (c_dot hx6 (.inr rfl)).mono (fun x6 w12 h12 => ?_) fun v w12 h12 => no' h h12.2.2 h12.1 (by rw [hmul, h12.2.1]; simp [bnone])
    have H := HD.keep (h.tr h12.2)
    refine H.st 2 rfl (by simp) fun _ H => H.st 2 rfl (by simp) fun _ H => H.st 2 rfl (by simp) fun _ H => H.st 2 rfl (by simp) fun _ H => H.st 2 rfl (by simp) fun _ H => H.st 2 rfl (by simp) fun _ H => H.st 3 rfl (by simp) fun w14 H => ?_
    refine c_mulD a b (x1, x2, x3, x4, x5, x6) 0 H 2 3 rfl rfl rfl ?_
    refine H.ld 2 rfl rfl (H.ld 2 rfl rfl (H.ld 2 rfl rfl (H.ld 2 rfl rfl (H.ld 2 rfl rfl (H.ld 2 rfl rfl (H.ld 3 rfl rfl ⟨?_, H.ext⟩))))))
    rw [hmul, h1, h2, h3, h4, h5, h12.1]
    rfl
end
end Mat
end Go.Proofs.YtcblpehnkogfdaaGreatDoor

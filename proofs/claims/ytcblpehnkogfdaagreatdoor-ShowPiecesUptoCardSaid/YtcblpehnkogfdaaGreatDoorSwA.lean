/- Shown strings: what a glyph, a step and a text are, plain; numbers rounded. Conditions: sizes. -/
import Derived.Test.YtcblpehnkogfdaaGreatDoorPaA
import Derived.Test.YtcblpehnkogfdaaGreatDoorFoE
import Derived.Test.YtcblpehnkogfdaaGreatDoorFnShow
namespace Go.Proofs.YtcblpehnkogfdaaGreatDoor
namespace Sw
open Sh Mat Fix Fo
set_option linter.unusedVariables false
set_option linter.unusedSimpArgs false
set_option maxRecDepth 4000
set_option maxHeartbeats 2000000
abbrev GT := TyA30
abbrev HT := TyA83
abbrev GlT := TyA69
abbrev TxT := TyA28
/-- A hand: a state and a font. -/
def hand (g : GT) (f : FT) : HT := (g.1, g.2.1, g.2.2.1, g.2.2.2.1, g.2.2.2.2.1, g.2.2.2.2.2.1, g.2.2.2.2.2.2.1, g.2.2.2.2.2.2.2.1, g.2.2.2.2.2.2.2.2.1, g.2.2.2.2.2.2.2.2.2.1, g.2.2.2.2.2.2.2.2.2.2.1, g.2.2.2.2.2.2.2.2.2.2.2.1, g.2.2.2.2.2.2.2.2.2.2.2.2.1, g.2.2.2.2.2.2.2.2.2.2.2.2.2.1, g.2.2.2.2.2.2.2.2.2.2.2.2.2.2.1, g.2.2.2.2.2.2.2.2.2.2.2.2.2.2.2.1, g.2.2.2.2.2.2.2.2.2.2.2.2.2.2.2.2.1, g.2.2.2.2.2.2.2.2.2.2.2.2.2.2.2.2.2.1, g.2.2.2.2.2.2.2.2.2.2.2.2.2.2.2.2.2.2.1, g.2.2.2.2.2.2.2.2.2.2.2.2.2.2.2.2.2.2.2.1, g.2.2.2.2.2.2.2.2.2.2.2.2.2.2.2.2.2.2.2.2.1, g.2.2.2.2.2.2.2.2.2.2.2.2.2.2.2.2.2.2.2.2.2.1, g.2.2.2.2.2.2.2.2.2.2.2.2.2.2.2.2.2.2.2.2.2.2.1, g.2.2.2.2.2.2.2.2.2.2.2.2.2.2.2.2.2.2.2.2.2.2.2.1, g.2.2.2.2.2.2.2.2.2.2.2.2.2.2.2.2.2.2.2.2.2.2.2.2.1, g.2.2.2.2.2.2.2.2.2.2.2.2.2.2.2.2.2.2.2.2.2.2.2.2.2.1, g.2.2.2.2.2.2.2.2.2.2.2.2.2.2.2.2.2.2.2.2.2.2.2.2.2.2.1, g.2.2.2.2.2.2.2.2.2.2.2.2.2.2.2.2.2.2.2.2.2.2.2.2.2.2.2.1, g.2.2.2.2.2.2.2.2.2.2.2.2.2.2.2.2.2.2.2.2.2.2.2.2.2.2.2.2.1, g.2.2.2.2.2.2.2.2.2.2.2.2.2.2.2.2.2.2.2.2.2.2.2.2.2.2.2.2.2, f.1, f.2.1, f.2.2.1, f.2.2.2.1, f.2.2.2.2.1, f.2.2.2.2.2.1, f.2.2.2.2.2.2)
def ctm (g : GT) : Mx := (g.1, g.2.1, g.2.2.1, g.2.2.2.1, g.2.2.2.2.1, g.2.2.2.2.2.1)
def tx (g : GT) : TxT := g.2.2.2.2.2.2.2.2.2.2.2.2.2.2.2.2.2.2.2.2.2.2
def tchar (g : GT) : Int := (tx g).1
def tword (g : GT) : Int := (tx g).2.1
def tscale (g : GT) : Int := (tx g).2.2.1
def tlead (g : GT) : Int := (tx g).2.2.2.1
def tsize (g : GT) : Int := (tx g).2.2.2.2.1
def trise (g : GT) : Int := (tx g).2.2.2.2.2.1
def tfont (g : GT) : ByteArray := (tx g).2.2.2.2.2.2.1
def tmode (g : GT) : Int := (tx g).2.2.2.2.2.2.2
def texts (g : GT) : List Int := [tchar g, tword g, tscale g, tlead g, tsize g, trise g]
def useG (g : GT) : Bool := Mat.okM (ctm g) && (texts g).all inW
/-- Rounded to nearest, by a million. -/
def near6 (n : Int) : Int := (n + 500000) / 1000000
def mulO (a b : Int) : Option Int := if inW a = true ∧ inW b = true ∧ inW (near (a * b)) = true then some (near (a * b)) else none
def sumO (l : List Int) : Option Int := if l.all inW = true ∧ inW (Pat.ps l l.length) = true then some (Pat.ps l l.length) else none
def resI : Option Int → Int × Int
  | some n => (n, 0)
  | none => (0, 2)
theorem sumF_res (l : List Int) : Pat.sumF l = resI (sumO l) := by
  unfold Pat.sumF sumO
  split <;> rfl
theorem sumO_in {l : List Int} {n : Int} (h : sumO l = some n) : inW n = true := by
  unfold sumO at h
  split at h
  · rename_i h1
    cases h
    exact h1.2
  · cases h
theorem mulO_in {a b n : Int} (h : mulO a b = some n) : inW n = true := by
  unfold mulO at h
  split at h
  · rename_i h1
    cases h
    exact h1.2.2
  · cases h
/-- The length of a vector's image. -/
theorem len_ex (m : Mx) (p : Int × Int) : ∃ x, IsLen m p x := by
  unfold IsLen
  cases ha : applyP (flat m) p with
  | none => exact ⟨_, rfl⟩
  | some q =>
    obtain ⟨i1, i2⟩ := applyP_in ha
    have hb := sq_bd i1 i2
    have hr : ∀ n : Nat, ∃ s : Nat, s * s ≤ n ∧ n < (s + 1) * (s + 1) := fun n => by
      induction n with
      | zero => exact ⟨0, by omega, by omega⟩
      | succ n ih =>
        obtain ⟨s, h1, h2⟩ := ih
        by_cases e : n + 1 < (s + 1) * (s + 1)
        · exact ⟨s, by omega, e⟩
        · refine ⟨s + 1, by omega, ?_⟩
          have : (s + 1 + 1) * (s + 1 + 1) = (s + 1) * (s + 1) + 2 * s + 3 := by rw [Nat.add_mul (s + 1) 1, Nat.mul_add (s + 1)]; omega
          omega
    obtain ⟨s, h1, h2⟩ := hr (q.1 * q.1 + q.2 * q.2).toNat
    refine ⟨_, (s : Int), ⟨by omega, ?_, ?_⟩, rfl⟩
    · have : ((s * s : Nat) : Int) = (s : Int) * (s : Int) := by simp
      omega
    · have : (((s + 1) * (s + 1) : Nat) : Int) = ((s : Int) + 1) * ((s : Int) + 1) := by simp
      omega
open Classical in
noncomputable def lenO (m : Mx) (p : Int × Int) : Option Int := if IsLen m p (0, 2) then none else if h : ∃ n, IsLen m p (n, 0) then some (Classical.choose h) else none
theorem lenO_eq {m : Mx} {p : Int × Int} {r e : Int} (h : IsLen m p (r, e)) : (r, e) = resI (lenO m p) := by
  unfold lenO
  have he : (r, e) = (0, 2) ∨ e = 0 := by
    unfold IsLen at h
    split at h
    · exact .inl h
    · obtain ⟨s, _, h2⟩ := h
      split at h2
      · exact .inl h2
      · exact .inr (Prod.mk.inj h2).2
  rcases he with he | rfl
  · rw [he] at h ⊢
    rw [if_pos h]
    rfl
  · rw [if_neg fun h2 => by cases isLen_eq h h2]
    have hx : ∃ n, IsLen m p (n, 0) := ⟨r, h⟩
    rw [dif_pos hx]
    exact isLen_eq h (Classical.choose_spec hx)
def scaledP (g : GT) (n : Int) : Option Int := if inW (near6 (n * tscale g)) = true then some (near6 (n * tscale g)) else none
def widthP (g : GT) (f : Font) (code : Int) : Option Int := mulO (tsize g) (10 * widthF f code)
def stepL (g : GT) (f : Font) (code w : Int) : List Int := [w, tchar g] ++ (if code = 32 ∧ f.wide = false then [tword g] else [])
def stepP (g : GT) (f : Font) (code w : Int) : Option Int := (sumO (stepL g f code w)).bind fun n => scaledP g n
/-- A glyph, and the text matrix behind it. -/
noncomputable def signP (g : GT) (f : Font) (m : Mx) (code : Int) : Option (GlT × Mx) :=
  (mulP m (ctm g)).bind fun all => (widthP g f code).bind fun w => (scaledP g w).bind fun en => (applyP all (0, trise g)).bind fun a => (applyP all (en, trise g)).bind fun b =>
    (lenO all (0, tsize g)).bind fun hi => (stepP g f code w).bind fun st => (mulP (moveM st 0) m).bind fun m' => some ((code, ⟨(sayF f code).toArray⟩, a.1, a.2, b.1, b.2, hi, tfont g, tmode g), m')
noncomputable def showP (g : GT) (f : Font) : List Int → Mx → Option (List GlT × Mx)
  | [], m => some ([], m)
  | c :: r, m => (signP g f m c).bind fun x => (showP g f r x.2).bind fun y => some (x.1 :: y.1, y.2)
def noM : Mx := (0, 0, 0, 0, 0, 0)
/-- What is wrong with a string's showing, before the first glyph. -/
def askE (g : GT) (m : Mx) (f : Font) (s : ByteArray) : Int :=
  if useG g = false ∨ Mat.okM m = false then 2 else if chkF f ≠ 0 then chkF f else if (codesF f.wide s).2 ≠ 0 then (codesF f.wide s).2 else if 16384 < (codesF f.wide s).1.length then 6 else 0
noncomputable def stringF (g : GT) (m : Mx) (f : Font) (s : ByteArray) : List GlT × Mx × Int :=
  if askE g m f s ≠ 0 then ([], noM, askE g m f s) else match showP g f (codesF f.wide s).1 m with
  | some x => (x.1, x.2, 0)
  | none => ([], noM, 2)
def stepF (g : GT) (f : Font) (code : Int) : Int × Int :=
  if useG g = false then (0, 2) else if chkF f ≠ 0 then (0, chkF f) else resI ((widthP g f code).bind fun w => stepP g f code w)
/-! ### Numbers -/
theorem td6 (n : Int) : 1000000 * Int.tdiv n 1000000 + Int.tmod n 1000000 = n ∧ -1000000 < Int.tmod n 1000000 ∧ Int.tmod n 1000000 < 1000000 ∧ (0 ≤ n → 0 ≤ Int.tmod n 1000000) ∧ (n ≤ 0 → Int.tmod n 1000000 ≤ 0) := by
  rcases Int.le_total 0 n with h | h
  · rw [tdiv_id h, tmod_id h]; omega
  · obtain ⟨m, rfl⟩ : ∃ m, n = -m := ⟨-n, by omega⟩
    rw [Int.neg_tdiv, Int.neg_tmod, tdiv_id (by omega), tmod_id (by omega)]; omega
theorem near6_eq {n : Int} (hn : -5000000000000000000 ≤ n ∧ n ≤ 5000000000000000000) : (if Int.tmod n 1000000 < 0 then (if Int.tmod n 1000000 + 1000000 ≥ 1000000 - (Int.tmod n 1000000 + 1000000) then Int.tdiv n 1000000 - 1 + 1 else Int.tdiv n 1000000 - 1) else if Int.tmod n 1000000 ≥ 1000000 - Int.tmod n 1000000 then Int.tdiv n 1000000 + 1 else Int.tdiv n 1000000) = near6 n := by
  unfold near6
  have := td6 n
  split
  · split <;> omega
  · split <;> omega
theorem c_near6 {n : Int} (hn : -5000000000000000000 ≤ n ∧ n ≤ 5000000000000000000) (w : World) : C104 n 1000000 w fun r w1 => r = near6 n ∧ Ext (fun _ => False) w w1 := by
  refine T104 _ _ _ _ ?_
  unfold S104
  have he : Ext (fun _ => False) w w.drew := (Ext.refl _ w).drew
  have e := near6_eq hn
  have := td6 n
  refine ⟨by omega, by omega, Br.dec (fun h => ?_) fun h => ?_⟩
  · rw [if_pos h] at e
    rw [i64_id (n := Int.tmod n 1000000 + 1000000) (by omega), i64_id (n := 1000000 - (Int.tmod n 1000000 + 1000000)) (by omega), i64_id (n := Int.tdiv n 1000000) (by omega), i64_id (n := Int.tdiv n 1000000 - 1) (by omega), i64_id (n := Int.tdiv n 1000000 - 1 + 1) (by omega)]
    refine Lt.of (Br.dec (fun h2 => ⟨?_, he⟩) fun h2 => ⟨?_, he⟩)
    · rw [if_pos h2] at e; exact e
    · rw [if_neg h2] at e; exact e
  · rw [if_neg h] at e
    rw [i64_id (n := 1000000 - Int.tmod n 1000000) (by omega), i64_id (n := Int.tdiv n 1000000) (by omega), i64_id (n := Int.tdiv n 1000000 + 1) (by omega)]
    refine Br.dec (fun h2 => ⟨?_, he⟩) fun h2 => ⟨?_, he⟩
    · rw [if_pos h2] at e; exact e
    · rw [if_neg h2] at e; exact e
theorem c_Near {n : Int} (hn : -4611686018427387904 ≤ n ∧ n ≤ 4611686018427387904) (w : World) : C100 n 1000000 w fun r e w1 => r = near6 n ∧ e = 0 ∧ Ext (fun _ => False) w w1 := by
  refine T100 _ _ _ _ ?_
  unfold S100
  refine Br.f (by decide) (Br.dec (fun h => absurd h (by omega)) fun _ => Br.dec (fun h => absurd h (by omega)) fun _ => (c_near6 (by omega) w).mono ?_)
  rintro r w1 ⟨rfl, he⟩
  exact ⟨rfl, rfl, he⟩
theorem row2 {w : World} {b : Nat} {t : TypeId} {x0 x1 : Int} (h : Blk w b #[.int .i64 x0, .int .i64 x1] t) : IRow w ⟨some ⟨b, 0, none⟩, 2, 2⟩ [x0, x1] :=
  IRow.of h rfl fun i hi => by
    rcases i with _ | _ | i
    · rfl
    · rfl
    · simp only [List.length_cons, List.length_nil] at hi
      omega
theorem c_mul2 (a b : Int) (w : World) : C64 a b w fun r e w1 => (r, e) = resI (mulO a b) ∧ Ext (fun _ => False) w w1 := by
  refine T64 _ _ _ _ ?_
  unfold S64
  refine (Hx.start w (fun _ => False)).nw fun w2 H => ?_
  have hs := H.size
  refine H.nw fun w3 H => ?_
  have caught : ∀ (cs1 cs2 : Int) (w4 : World), Hx w (fun _ => False) w4 [(w.heap.size, #[.int .i64 cs1], 2), (w2.heap.size, #[.int .i64 cs2], 43)] → (mulO a b = none) →
      S64P w w2 (fun r e w1 => (r, e) = resI (mulO a b) ∧ Ext (fun _ => False) w w1) (refused 2) w4 := fun cs1 cs2 w4 H hd => by
    unfold S64P
    refine T101_T170 _ _ 2 _ _ ?_
    unfold S101_T170
    refine Nn.of (H.st 0 rfl (by simp) (.inr (Nat.le_refl _)) fun w5 H => Nn.of (H.st 1 rfl (by simp) (.inr hs) fun w6 H => H.ld 0 rfl rfl (H.ld 1 rfl rfl ⟨by rw [hd]; rfl, H.ext⟩)))
  have done : ∀ (r e : Int) (w4 : World), Hx w (fun _ => False) w4 [(w.heap.size, #[.int .i64 r], 2), (w2.heap.size, #[.int .i64 e], 43)] → resI (mulO a b) = (r, e) →
      CD101 (some (⟨w.heap.size, 0, none⟩ : Addr)) (some (⟨w2.heap.size, 0, none⟩ : Addr)) none w4 fun vw15 =>
        Ld vw15 (⟨w.heap.size, 0, none⟩ : Addr) (Value.int .i64) fun (x16 : Int) =>
        Ld vw15 (⟨w2.heap.size, 0, none⟩ : Addr) (Value.int .i64) fun (x17 : Int) =>
        (x16, x17) = resI (mulO a b) ∧ Ext (fun _ => False) w vw15 := fun r e w4 H hd => by
    refine T101_nil _ _ _ _ ?_
    unfold S101_nil
    exact H.ld 0 rfl rfl (H.ld 1 rfl rfl ⟨hd.symm, H.ext⟩)
  refine H.nw fun w4 H => ?_
  have HB := H.get 2 rfl
  have H := H.left (L := [(w.heap.size, #[.int .i64 0], 2), (w2.heap.size, #[.int .i64 0], 43)])
  refine (c_bounded (l := [a, b]) (row2 HB) (by simp)).mono (fun w5 h5 => ?_) fun v w5 h5 => ?_
  case refine_2 =>
    obtain ⟨rfl, rfl, ha⟩ := h5
    refine caught _ _ _ H (if_neg fun hc => ha fun i hi => ?_)
    rcases i with _ | _ | i
    · exact hc.1
    · exact hc.2.1
    · simp only [List.length_cons, List.length_nil] at hi
      omega
  obtain ⟨rfl, ha⟩ := h5
  have h1 : inW a = true := ha 0 (by simp)
  have h2 : inW b = true := ha 1 (by simp)
  have hb := mul_bd (inW_spec.1 h1) (inW_spec.1 h2)
  rw [i64_id (n := a * b) (by omega)]
  refine (c_near (by omega) _).mono ?_
  rintro r w6 ⟨rfl, e6⟩
  have H := H.keep e6
  refine (c_answer _ _).mono (fun r w7 h7 => ?_) fun v w7 h7 => ?_
  · obtain ⟨rfl, hw, he⟩ := h7
    have H := H.keep he
    exact H.st 0 rfl (by simp) (.inr (Nat.le_refl _)) fun w8 H => H.st 1 rfl (by simp) (.inr hs) fun w9 H => done _ 0 _ H (by unfold mulO; rw [if_pos ⟨h1, h2, hw⟩]; rfl)
  · obtain ⟨rfl, hw, he⟩ := h7
    exact caught _ _ _ (H.keep he) (if_neg fun hc => by rw [hc.2.2] at hw; cases hw)
end Sw
end Go.Proofs.YtcblpehnkogfdaaGreatDoor
/- Shown strings: what gives up; a state's check; lengths, widths and steps. Conditions: sizes. -/
namespace Go.Proofs.YtcblpehnkogfdaaGreatDoor
namespace Sw
open Sh Mat Fix Fo
set_option linter.unusedVariables false
set_option linter.unusedSimpArgs false
set_option maxRecDepth 4000
set_option maxHeartbeats 2000000
attribute [local irreducible] Ld St Nw Nn Lt LdS
/-- The panic of this package. -/
def gup (e : Int) : Value := .iface 106 (.agg #[.int .i64 e])
theorem c_need (b : Bool) (e : Int) (w : World) : C39 b e w (fun w1 => b = true ∧ w1 = w) fun v w1 => v = gup e ∧ b = false ∧ w1 = w := by
  refine T39 _ _ _ _ _ ?_
  unfold S39
  cases b with
  | true => exact Br.f rfl ⟨rfl, rfl⟩
  | false => exact Br.t rfl ⟨rfl, rfl, rfl⟩
theorem c_mustI (x e : Int) (w : World) : C62 x e w (fun r w1 => r = x ∧ e = 0 ∧ w1 = w) fun v w1 => v = gup e ∧ e ≠ 0 ∧ w1 = w := by
  refine T62 _ _ _ _ _ ?_
  unfold S62
  exact (c_need _ e w).mono (fun w1 h => ⟨rfl, by simpa using h.1, h.2⟩) fun v w1 h => ⟨h.1, by simpa using h.2.1, h.2.2⟩
theorem c_mustS (x : Slc) (e : Int) (w : World) : C90 x e w (fun r w1 => r = x ∧ e = 0 ∧ w1 = w) fun v w1 => v = gup e ∧ e ≠ 0 ∧ w1 = w := by
  refine T90 _ _ _ _ _ ?_
  unfold S90
  exact (c_need _ e w).mono (fun w1 h => ⟨rfl, by simpa using h.1, h.2⟩) fun v w1 h => ⟨h.1, by simpa using h.2.1, h.2.2⟩
theorem c_mustP (x : Int × Int) (e : Int) (w : World) : C121 x e w (fun r w1 => r = x ∧ e = 0 ∧ Ext (fun _ => False) w w1) fun v w1 => v = gup e ∧ e ≠ 0 ∧ Ext (fun _ => False) w w1 := by
  refine T121 _ _ _ _ _ ?_
  unfold S121
  refine (Hn.start w).nw fun w3 H => H.nw fun w4 H => ?_
  refine (c_need _ e _).mono (fun w5 h => ?_) fun v w5 h => ⟨h.1, by simpa using h.2.1, by rw [h.2.2]; exact H.ext⟩
  obtain ⟨h1, rfl⟩ := h
  repeat (first | refine Lt.of ?_ | refine Nn.of ?_ | refine H.ld 0 rfl rfl ?_ | refine H.ld 1 rfl rfl ?_ | refine H.ld 2 rfl rfl ?_ | refine H.ld 3 rfl rfl ?_ | refine H.ld 4 rfl rfl ?_ | refine H.ld 5 rfl rfl ?_ | (refine H.st 0 rfl (by simp) fun _ H => ?_; simp only [List.nil_append, List.cons_append, List.set_cons_zero, List.set_cons_succ, Nat.zero_add] at H) | (refine H.st 1 rfl (by simp) fun _ H => ?_; simp only [List.nil_append, List.cons_append, List.set_cons_zero, List.set_cons_succ, Nat.zero_add] at H) | (refine H.st 2 rfl (by simp) fun _ H => ?_; simp only [List.nil_append, List.cons_append, List.set_cons_zero, List.set_cons_succ, Nat.zero_add] at H) | (refine H.st 3 rfl (by simp) fun _ H => ?_; simp only [List.nil_append, List.cons_append, List.set_cons_zero, List.set_cons_succ, Nat.zero_add] at H) | (refine H.st 4 rfl (by simp) fun _ H => ?_; simp only [List.nil_append, List.cons_append, List.set_cons_zero, List.set_cons_succ, Nat.zero_add] at H) | (refine H.st 5 rfl (by simp) fun _ H => ?_; simp only [List.nil_append, List.cons_append, List.set_cons_zero, List.set_cons_succ, Nat.zero_add] at H))
  exact ⟨rfl, by simpa using h1, H.ext⟩
theorem c_mustM (x : Mx) (e : Int) (w : World) : C89 x e w (fun r w1 => r = x ∧ e = 0 ∧ Ext (fun _ => False) w w1) fun v w1 => v = gup e ∧ e ≠ 0 ∧ Ext (fun _ => False) w w1 := by
  refine T89 _ _ _ _ _ ?_
  unfold S89
  refine (Hn.start w).nw fun w3 H => H.nw fun w4 H => ?_
  refine (c_need _ e _).mono (fun w5 h => ?_) fun v w5 h => ⟨h.1, by simpa using h.2.1, by rw [h.2.2]; exact H.ext⟩
  obtain ⟨h1, rfl⟩ := h
  repeat (first | refine Lt.of ?_ | refine Nn.of ?_ | refine H.ld 0 rfl rfl ?_ | refine H.ld 1 rfl rfl ?_ | refine H.ld 2 rfl rfl ?_ | refine H.ld 3 rfl rfl ?_ | refine H.ld 4 rfl rfl ?_ | refine H.ld 5 rfl rfl ?_ | (refine H.st 0 rfl (by simp) fun _ H => ?_; simp only [List.nil_append, List.cons_append, List.set_cons_zero, List.set_cons_succ, Nat.zero_add] at H) | (refine H.st 1 rfl (by simp) fun _ H => ?_; simp only [List.nil_append, List.cons_append, List.set_cons_zero, List.set_cons_succ, Nat.zero_add] at H) | (refine H.st 2 rfl (by simp) fun _ H => ?_; simp only [List.nil_append, List.cons_append, List.set_cons_zero, List.set_cons_succ, Nat.zero_add] at H) | (refine H.st 3 rfl (by simp) fun _ H => ?_; simp only [List.nil_append, List.cons_append, List.set_cons_zero, List.set_cons_succ, Nat.zero_add] at H) | (refine H.st 4 rfl (by simp) fun _ H => ?_; simp only [List.nil_append, List.cons_append, List.set_cons_zero, List.set_cons_succ, Nat.zero_add] at H) | (refine H.st 5 rfl (by simp) fun _ H => ?_; simp only [List.nil_append, List.cons_append, List.set_cons_zero, List.set_cons_succ, Nat.zero_add] at H))
  exact ⟨rfl, by simpa using h1, H.ext⟩
/-- The cells of a state, of a hand, in their blocks. -/
theorem gr_blk (w : World) (g : GT) : Hn w (w.alloc (.cells (Sig.cells LiA30 g).toArray 31)) [(w.heap.size, [.int .i64 (g.1), .int .i64 (g.2.1), .int .i64 (g.2.2.1), .int .i64 (g.2.2.2.1), .int .i64 (g.2.2.2.2.1), .int .i64 (g.2.2.2.2.2.1), .int .i64 (g.2.2.2.2.2.2.1), .int .i64 (g.2.2.2.2.2.2.2.1), .int .i64 (g.2.2.2.2.2.2.2.2.1), .int .i64 (g.2.2.2.2.2.2.2.2.2.1), Slc.v (g.2.2.2.2.2.2.2.2.2.2.1), .int .i64 (g.2.2.2.2.2.2.2.2.2.2.2.1), .int .i64 (g.2.2.2.2.2.2.2.2.2.2.2.2.1), .int .i64 (g.2.2.2.2.2.2.2.2.2.2.2.2.2.1), .int .i64 (g.2.2.2.2.2.2.2.2.2.2.2.2.2.2.1), .int .i64 (g.2.2.2.2.2.2.2.2.2.2.2.2.2.2.2.1), .int .i64 (g.2.2.2.2.2.2.2.2.2.2.2.2.2.2.2.2.1), .int .i64 (g.2.2.2.2.2.2.2.2.2.2.2.2.2.2.2.2.2.1), .int .i64 (g.2.2.2.2.2.2.2.2.2.2.2.2.2.2.2.2.2.2.1), .int .i64 (g.2.2.2.2.2.2.2.2.2.2.2.2.2.2.2.2.2.2.2.1), .int .i64 (g.2.2.2.2.2.2.2.2.2.2.2.2.2.2.2.2.2.2.2.2.1), .int .i64 (g.2.2.2.2.2.2.2.2.2.2.2.2.2.2.2.2.2.2.2.2.2.1), .int .i64 (g.2.2.2.2.2.2.2.2.2.2.2.2.2.2.2.2.2.2.2.2.2.2.1), .int .i64 (g.2.2.2.2.2.2.2.2.2.2.2.2.2.2.2.2.2.2.2.2.2.2.2.1), .int .i64 (g.2.2.2.2.2.2.2.2.2.2.2.2.2.2.2.2.2.2.2.2.2.2.2.2.1), .int .i64 (g.2.2.2.2.2.2.2.2.2.2.2.2.2.2.2.2.2.2.2.2.2.2.2.2.2.1), .int .i64 (g.2.2.2.2.2.2.2.2.2.2.2.2.2.2.2.2.2.2.2.2.2.2.2.2.2.2.1), .int .i64 (g.2.2.2.2.2.2.2.2.2.2.2.2.2.2.2.2.2.2.2.2.2.2.2.2.2.2.2.1), .string (g.2.2.2.2.2.2.2.2.2.2.2.2.2.2.2.2.2.2.2.2.2.2.2.2.2.2.2.2.1), .int .i64 (g.2.2.2.2.2.2.2.2.2.2.2.2.2.2.2.2.2.2.2.2.2.2.2.2.2.2.2.2.2)], 31)] := by
  have h := Hn.push (Hn.start w |>.keep ((Ext.refl (fun _ => False) w).alloc (.cells (Sig.cells LiA30 g).toArray 31))) (Blk.new w (Sig.cells LiA30 g).toArray 31) (Nat.le_refl _) (by simp)
  exact h
theorem ha_blk (w : World) (g : GT) (x : FT) : Hn w (w.alloc (.cells (Sig.cells LiA83 (hand g x)).toArray 84)) [(w.heap.size, [.int .i64 (g.1), .int .i64 (g.2.1), .int .i64 (g.2.2.1), .int .i64 (g.2.2.2.1), .int .i64 (g.2.2.2.2.1), .int .i64 (g.2.2.2.2.2.1), .int .i64 (g.2.2.2.2.2.2.1), .int .i64 (g.2.2.2.2.2.2.2.1), .int .i64 (g.2.2.2.2.2.2.2.2.1), .int .i64 (g.2.2.2.2.2.2.2.2.2.1), Slc.v (g.2.2.2.2.2.2.2.2.2.2.1), .int .i64 (g.2.2.2.2.2.2.2.2.2.2.2.1), .int .i64 (g.2.2.2.2.2.2.2.2.2.2.2.2.1), .int .i64 (g.2.2.2.2.2.2.2.2.2.2.2.2.2.1), .int .i64 (g.2.2.2.2.2.2.2.2.2.2.2.2.2.2.1), .int .i64 (g.2.2.2.2.2.2.2.2.2.2.2.2.2.2.2.1), .int .i64 (g.2.2.2.2.2.2.2.2.2.2.2.2.2.2.2.2.1), .int .i64 (g.2.2.2.2.2.2.2.2.2.2.2.2.2.2.2.2.2.1), .int .i64 (g.2.2.2.2.2.2.2.2.2.2.2.2.2.2.2.2.2.2.1), .int .i64 (g.2.2.2.2.2.2.2.2.2.2.2.2.2.2.2.2.2.2.2.1), .int .i64 (g.2.2.2.2.2.2.2.2.2.2.2.2.2.2.2.2.2.2.2.2.1), .int .i64 (g.2.2.2.2.2.2.2.2.2.2.2.2.2.2.2.2.2.2.2.2.2.1), .int .i64 (g.2.2.2.2.2.2.2.2.2.2.2.2.2.2.2.2.2.2.2.2.2.2.1), .int .i64 (g.2.2.2.2.2.2.2.2.2.2.2.2.2.2.2.2.2.2.2.2.2.2.2.1), .int .i64 (g.2.2.2.2.2.2.2.2.2.2.2.2.2.2.2.2.2.2.2.2.2.2.2.2.1), .int .i64 (g.2.2.2.2.2.2.2.2.2.2.2.2.2.2.2.2.2.2.2.2.2.2.2.2.2.1), .int .i64 (g.2.2.2.2.2.2.2.2.2.2.2.2.2.2.2.2.2.2.2.2.2.2.2.2.2.2.1), .int .i64 (g.2.2.2.2.2.2.2.2.2.2.2.2.2.2.2.2.2.2.2.2.2.2.2.2.2.2.2.1), .string (g.2.2.2.2.2.2.2.2.2.2.2.2.2.2.2.2.2.2.2.2.2.2.2.2.2.2.2.2.1), .int .i64 (g.2.2.2.2.2.2.2.2.2.2.2.2.2.2.2.2.2.2.2.2.2.2.2.2.2.2.2.2.2), .string (x.1), .bool (x.2.1), .int .i64 (x.2.2.1), Slc.v (x.2.2.2.1), .int .i64 (x.2.2.2.2.1), Slc.v (x.2.2.2.2.2.1), Slc.v (x.2.2.2.2.2.2)], 84)] := by
  have h := Hn.push (Hn.start w |>.keep ((Ext.refl (fun _ => False) w).alloc (.cells (Sig.cells LiA83 (hand g x)).toArray 84))) (Blk.new w (Sig.cells LiA83 (hand g x)).toArray 84) (Nat.le_refl _) (by simp)
  exact h
theorem c_mustF (x : FT) (e : Int) (w : World) : C32 x e w (fun r w1 => r = x ∧ e = 0 ∧ Ext (fun _ => False) w w1) fun v w1 => v = gup e ∧ e ≠ 0 ∧ Ext (fun _ => False) w w1 := by
  refine T32 _ _ _ _ _ ?_
  unfold S32
  refine Nw.of ?_
  have H := fo_blk w x
  generalize w.alloc (.cells (Sig.cells LiA34 x).toArray 35) = wd at *
  refine H.nw fun w4 H => ?_
  refine (c_need _ e _).mono (fun w5 h => ?_) fun v w5 h => ⟨h.1, by simpa using h.2.1, by rw [h.2.2]; exact H.ext⟩
  obtain ⟨h1, rfl⟩ := h
  refine H.ldT (i := 0) (pre := []) (post := []) (ts := LiA34) (x := x) rfl rfl ?_
  refine H.stT (i := 1) (pre := []) (post := []) (zs := [.string ⟨#[]⟩, .bool false, .int .i64 0, Slc.v ⟨none, 0, 0⟩, .int .i64 0, Slc.v ⟨none, 0, 0⟩, Slc.v ⟨none, 0, 0⟩]) rfl rfl rfl fun w7 H => ?_
  exact H.ldT (i := 1) (pre := []) (post := []) (ts := LiA34) (x := x) rfl rfl ⟨rfl, by simpa using h1, H.ext⟩
theorem c_mustG (x : GT) (e : Int) (w : World) : C56 x e w (fun r w1 => r = x ∧ e = 0 ∧ Ext (fun _ => False) w w1) fun v w1 => v = gup e ∧ e ≠ 0 ∧ Ext (fun _ => False) w w1 := by
  refine T56 _ _ _ _ _ ?_
  unfold S56
  refine Nw.of ?_
  have H := gr_blk w x
  generalize w.alloc (.cells (Sig.cells LiA30 x).toArray 31) = wd at *
  refine H.nw fun w4 H => ?_
  refine (c_need _ e _).mono (fun w5 h => ?_) fun v w5 h => ⟨h.1, by simpa using h.2.1, by rw [h.2.2]; exact H.ext⟩
  obtain ⟨h1, rfl⟩ := h
  refine H.ldT (i := 0) (pre := []) (post := []) (ts := LiA30) (x := x) rfl rfl ?_
  refine H.stT (i := 1) (pre := []) (post := []) (zs := [.int .i64 0, .int .i64 0, .int .i64 0, .int .i64 0, .int .i64 0, .int .i64 0, .int .i64 0, .int .i64 0, .int .i64 0, .int .i64 0, Slc.v ⟨none, 0, 0⟩, .int .i64 0, .int .i64 0, .int .i64 0, .int .i64 0, .int .i64 0, .int .i64 0, .int .i64 0, .int .i64 0, .int .i64 0, .int .i64 0, .int .i64 0, .int .i64 0, .int .i64 0, .int .i64 0, .int .i64 0, .int .i64 0, .int .i64 0, .string ⟨#[]⟩, .int .i64 0]) rfl rfl rfl fun w7 H => ?_
  exact H.ldT (i := 1) (pre := []) (post := []) (ts := LiA30) (x := x) rfl rfl ⟨rfl, by simpa using h1, H.ext⟩
theorem c_fits (n : Int) (w : World) : C58 n w (fun r w1 => r = n ∧ inW n = true ∧ w1 = w) fun v w1 => v = gup 2 ∧ inW n = false ∧ w1 = w := by
  refine T58 _ _ _ _ ?_
  unfold S58
  refine Br.dec (fun h => ?_) fun h => ?_
  · refine (c_need _ 2 w).mono (fun w1 h2 => ?_) fun v w1 h2 => ?_
    · have := h2.1
      rw [decide_eq_true_eq] at this
      exact ⟨rfl, inW_spec.2 (by omega), h2.2⟩
    · have := h2.2.1
      rw [decide_eq_false_iff_not] at this
      exact ⟨h2.1, inW_no.2 (by omega), h2.2.2⟩
  · exact (c_need _ 2 w).mono (fun w1 h2 => by cases h2.1) fun v w1 h2 => ⟨h2.1, inW_no.2 (by omega), h2.2.2⟩
theorem c_use (g : GT) (w : World) : C31 g w (fun w1 => useG g = true ∧ Ext (fun _ => False) w w1) fun v w1 => v = gup 2 ∧ useG g = false ∧ Ext (fun _ => False) w w1 := by
  refine T31 _ _ _ _ ?_
  unfold S31
  refine Nw.of ?_
  have H := gr_blk w g
  have hE := H.ext
  generalize w.alloc (.cells (Sig.cells LiA30 g).toArray 31) = wd at *
  have cl : ∀ {j : Nat} {v : Value}, ([.int .i64 (g.1), .int .i64 (g.2.1), .int .i64 (g.2.2.1), .int .i64 (g.2.2.2.1), .int .i64 (g.2.2.2.2.1), .int .i64 (g.2.2.2.2.2.1), .int .i64 (g.2.2.2.2.2.2.1), .int .i64 (g.2.2.2.2.2.2.2.1), .int .i64 (g.2.2.2.2.2.2.2.2.1), .int .i64 (g.2.2.2.2.2.2.2.2.2.1), Slc.v (g.2.2.2.2.2.2.2.2.2.2.1), .int .i64 (g.2.2.2.2.2.2.2.2.2.2.2.1), .int .i64 (g.2.2.2.2.2.2.2.2.2.2.2.2.1), .int .i64 (g.2.2.2.2.2.2.2.2.2.2.2.2.2.1), .int .i64 (g.2.2.2.2.2.2.2.2.2.2.2.2.2.2.1), .int .i64 (g.2.2.2.2.2.2.2.2.2.2.2.2.2.2.2.1), .int .i64 (g.2.2.2.2.2.2.2.2.2.2.2.2.2.2.2.2.1), .int .i64 (g.2.2.2.2.2.2.2.2.2.2.2.2.2.2.2.2.2.1), .int .i64 (g.2.2.2.2.2.2.2.2.2.2.2.2.2.2.2.2.2.2.1), .int .i64 (g.2.2.2.2.2.2.2.2.2.2.2.2.2.2.2.2.2.2.2.1), .int .i64 (g.2.2.2.2.2.2.2.2.2.2.2.2.2.2.2.2.2.2.2.2.1), .int .i64 (g.2.2.2.2.2.2.2.2.2.2.2.2.2.2.2.2.2.2.2.2.2.1), .int .i64 (g.2.2.2.2.2.2.2.2.2.2.2.2.2.2.2.2.2.2.2.2.2.2.1), .int .i64 (g.2.2.2.2.2.2.2.2.2.2.2.2.2.2.2.2.2.2.2.2.2.2.2.1), .int .i64 (g.2.2.2.2.2.2.2.2.2.2.2.2.2.2.2.2.2.2.2.2.2.2.2.2.1), .int .i64 (g.2.2.2.2.2.2.2.2.2.2.2.2.2.2.2.2.2.2.2.2.2.2.2.2.2.1), .int .i64 (g.2.2.2.2.2.2.2.2.2.2.2.2.2.2.2.2.2.2.2.2.2.2.2.2.2.2.1), .int .i64 (g.2.2.2.2.2.2.2.2.2.2.2.2.2.2.2.2.2.2.2.2.2.2.2.2.2.2.2.1), .string (g.2.2.2.2.2.2.2.2.2.2.2.2.2.2.2.2.2.2.2.2.2.2.2.2.2.2.2.2.1), .int .i64 (g.2.2.2.2.2.2.2.2.2.2.2.2.2.2.2.2.2.2.2.2.2.2.2.2.2.2.2.2.2)] : List Value)[j]? = some v → wd.drew.cell? ⟨w.heap.size, j, none⟩ = some v := fun {j v} hj => by
    rw [(H.drew.get 0 rfl).cell, List.getElem?_toArray]
    exact hj
  have h2 : Ext (fun _ => False) wd.drew wd.drew := Ext.refl _ _
  refine ⟨Ext (fun _ => False) wd.drew, h2, ?_⟩
  refine LdST.blk (ts := LiA30) (pre := []) (post := []) (t := 31) (x := g) (fun w' hw => hw.blk (H.drew.get 0 rfl) id) rfl ?_
  refine ldS_ext (cl rfl) (ldS_ext (cl rfl) (ldS_ext (cl rfl) (ldS_ext (cl rfl) (ldS_ext (cl rfl) (ldS_ext (cl rfl) ?_)))))
  refine (Mat.c_check (ctm g) _).mono ?_
  rintro r w12 ⟨rfl, e12⟩
  refine ⟨e12, (c_mustG g _ _).mono (fun r w14 h => ?_) fun v w14 h => ?_⟩
  case refine_2 =>
    obtain ⟨rfl, h0, e14⟩ := h
    have hm : Mat.okM (ctm g) = false := by
      cases hm : Mat.okM (ctm g) with
      | false => rfl
      | true => rw [hm] at h0; exact absurd rfl h0
    refine ⟨by rw [hm]; rfl, by unfold useG; rw [hm]; rfl, (hE.drew.tr e12).tr e14⟩
  obtain ⟨rfl, h0, e14⟩ := h
  have hm : Mat.okM (ctm r) = true := by
    cases hm : Mat.okM (ctm r) with
    | true => rfl
    | false => rw [hm] at h0; cases h0
  have H := (H.drew.keep e12).keep e14
  refine H.ldT (i := 0) (pre := (Sig.cells LiA30 r).take 22) (post := []) (ts := LiA28) (x := tx r) rfl rfl ?_
  refine H.nw fun w16 H => ?_
  refine H.stT (i := 1) (pre := []) (post := []) (zs := [.int .i64 0, .int .i64 0, .int .i64 0, .int .i64 0, .int .i64 0, .int .i64 0, .string ⟨#[]⟩, .int .i64 0]) rfl rfl rfl fun w17 H => ?_
  refine H.ld 1 rfl (x := tchar r) rfl (H.ld 1 rfl (x := tword r) rfl (H.ld 1 rfl (x := tscale r) rfl (H.ld 1 rfl (x := tlead r) rfl (H.ld 1 rfl (x := tsize r) rfl (H.ld 1 rfl (x := trise r) rfl ?_)))))
  have e17 := H.ext
  refine ⟨fun n st w1 => ∃ k : Nat, st = (k : Int) ∧ k ≤ 6 ∧ n = 6 - k ∧ w1 = w17 ∧ ∀ i, i < k → inW ((texts r).getD i 0) = true, 6, ⟨0, rfl, by omega, rfl, rfl, fun i hi => by omega⟩, ?_⟩
  rintro n st w1 ⟨k, rfl, hk, rfl, rfl, hall⟩
  unfold S31L1
  refine Br.dec (fun q => ?_) fun q => ?_
  · refine ⟨by omega, by omega, (texts r).getD k 0, ?_, (c_fits _ _).mono (fun r2 w2 h => ?_) fun v w2 h => ?_⟩
    · have hk6 : k < 6 := by omega
      rw [Int.toNat_natCast, Nat.mul_one]
      clear hall q
      rcases k with _ | _ | _ | _ | _ | _ | k
      all_goals first | rfl | omega
    · obtain ⟨rfl, hw, rfl⟩ := h
      refine ⟨6 - (k + 1), by omega, k + 1, by rw [i64_id (by omega)]; rfl, by omega, rfl, rfl, fun i hi => ?_⟩
      by_cases hik : i = k
      · rw [hik]; exact hw
      · exact hall i (by omega)
    · obtain ⟨rfl, hw, rfl⟩ := h
      refine ⟨rfl, ?_, e17⟩
      unfold useG
      rw [hm, Bool.true_and]
      cases ha : (texts r).all inW with
      | false => rfl
      | true =>
        have := (all_iff _).1 ha k (by show k < 6; omega)
        rw [hw] at this
        cases this
  · refine ⟨?_, e17⟩
    unfold useG
    rw [hm, Bool.true_and]
    exact (all_iff _).2 fun i hi => hall i (by have : i < 6 := hi; omega)
theorem useG_in {g : GT} (h : useG g = true) : Mat.okM (ctm g) = true ∧ inW (tchar g) = true ∧ inW (tword g) = true ∧ inW (tscale g) = true ∧ inW (tsize g) = true ∧ inW (trise g) = true := by
  unfold useG texts at h
  simp only [Bool.and_eq_true, List.all_cons, List.all_nil] at h
  exact ⟨h.1, h.2.1, h.2.2.1, h.2.2.2.1, h.2.2.2.2.2.1, h.2.2.2.2.2.2.1⟩
section
variable {w : World} {g : GT} {x : FT} {f : Font}
theorem c_scaled (x : FT) {n : Int} (hn : inW n = true) (hs : inW (tscale g) = true) (w : World) : C61 (hand g x) n w (fun r w1 => scaledP g n = some r ∧ Ext (fun _ => False) w w1) fun v w1 => v = gup 2 ∧ scaledP g n = none ∧ Ext (fun _ => False) w w1 := by
  refine T61 _ _ _ _ _ ?_
  unfold S61
  refine Nw.of ?_
  have H := ha_blk w g x
  have hE := H.ext
  generalize w.alloc (.cells (Sig.cells LiA83 (hand g x)).toArray 84) = wd at *
  refine H.ld 0 rfl (x := tscale g) rfl ?_
  have hb := mul_bd (inW_spec.1 hn) (inW_spec.1 hs)
  rw [i64_id (n := n * tscale g) (by omega)]
  refine (c_Near (by omega) _).mono ?_
  rintro r e w2 ⟨rfl, rfl, e2⟩
  refine (c_mustI _ 0 _).mono (fun r w3 h => ?_) fun v w3 h => absurd rfl h.2.1
  obtain ⟨rfl, _, rfl⟩ := h
  refine (c_fits _ _).mono (fun r w3 h => ?_) fun v w3 h => ?_
  · obtain ⟨rfl, hw, rfl⟩ := h
    exact ⟨by unfold scaledP; rw [if_pos hw], hE.tr e2⟩
  · obtain ⟨rfl, hw, rfl⟩ := h
    exact ⟨rfl, by unfold scaledP; rw [if_neg (by rw [hw]; decide)], hE.tr e2⟩
theorem widthF_bd (h : mayF f = true) (code : Int) : 0 ≤ widthF f code ∧ widthF f code ≤ 100000 := by
  unfold mayF at h
  simp only [Bool.and_eq_true, Fo.bnd, decide_eq_true_eq, List.all_eq_true] at h
  unfold widthF
  split
  · exact h.1.1.1.2
  · rename_i q
    have hil : (code - f.first).toNat < f.widths.length := by omega
    have := h.1.1.2 _ (List.getElem_mem hil)
    rw [List.getD_eq_getElem?_getD, List.getElem?_eq_getElem hil]
    exact this
theorem mayF_first (h : mayF f = true) : 0 ≤ f.first := by
  unfold mayF at h
  simp only [Bool.and_eq_true, Fo.bnd, decide_eq_true_eq, List.all_eq_true] at h
  exact h.1.1.1.1.1.1.2
theorem chk_may (h : chkF f = 0) : mayF f = true := by
  unfold chkF at h
  cases hm : mayF f with
  | true => rfl
  | false => rw [hm] at h; cases h
theorem c_wide (h : FoV w x f) (hm : mayF f = true) {code : Int} (hc : I64 code) : C35 (hand g x) code w (fun r w1 => widthP g f code = some r ∧ Ext (fun _ => False) w w1) fun v w1 => v = gup 2 ∧ widthP g f code = none ∧ Ext (fun _ => False) w w1 := by
  refine T35 _ _ _ _ _ ?_
  unfold S35
  refine Nw.of ?_
  have H := ha_blk w g x
  have hE := H.ext
  generalize w.alloc (.cells (Sig.cells LiA83 (hand g x)).toArray 84) = wd at *
  have cl : ∀ {j : Nat} {v : Value}, ([.int .i64 (g.1), .int .i64 (g.2.1), .int .i64 (g.2.2.1), .int .i64 (g.2.2.2.1), .int .i64 (g.2.2.2.2.1), .int .i64 (g.2.2.2.2.2.1), .int .i64 (g.2.2.2.2.2.2.1), .int .i64 (g.2.2.2.2.2.2.2.1), .int .i64 (g.2.2.2.2.2.2.2.2.1), .int .i64 (g.2.2.2.2.2.2.2.2.2.1), Slc.v (g.2.2.2.2.2.2.2.2.2.2.1), .int .i64 (g.2.2.2.2.2.2.2.2.2.2.2.1), .int .i64 (g.2.2.2.2.2.2.2.2.2.2.2.2.1), .int .i64 (g.2.2.2.2.2.2.2.2.2.2.2.2.2.1), .int .i64 (g.2.2.2.2.2.2.2.2.2.2.2.2.2.2.1), .int .i64 (g.2.2.2.2.2.2.2.2.2.2.2.2.2.2.2.1), .int .i64 (g.2.2.2.2.2.2.2.2.2.2.2.2.2.2.2.2.1), .int .i64 (g.2.2.2.2.2.2.2.2.2.2.2.2.2.2.2.2.2.1), .int .i64 (g.2.2.2.2.2.2.2.2.2.2.2.2.2.2.2.2.2.2.1), .int .i64 (g.2.2.2.2.2.2.2.2.2.2.2.2.2.2.2.2.2.2.2.1), .int .i64 (g.2.2.2.2.2.2.2.2.2.2.2.2.2.2.2.2.2.2.2.2.1), .int .i64 (g.2.2.2.2.2.2.2.2.2.2.2.2.2.2.2.2.2.2.2.2.2.1), .int .i64 (g.2.2.2.2.2.2.2.2.2.2.2.2.2.2.2.2.2.2.2.2.2.2.1), .int .i64 (g.2.2.2.2.2.2.2.2.2.2.2.2.2.2.2.2.2.2.2.2.2.2.2.1), .int .i64 (g.2.2.2.2.2.2.2.2.2.2.2.2.2.2.2.2.2.2.2.2.2.2.2.2.1), .int .i64 (g.2.2.2.2.2.2.2.2.2.2.2.2.2.2.2.2.2.2.2.2.2.2.2.2.2.1), .int .i64 (g.2.2.2.2.2.2.2.2.2.2.2.2.2.2.2.2.2.2.2.2.2.2.2.2.2.2.1), .int .i64 (g.2.2.2.2.2.2.2.2.2.2.2.2.2.2.2.2.2.2.2.2.2.2.2.2.2.2.2.1), .string (g.2.2.2.2.2.2.2.2.2.2.2.2.2.2.2.2.2.2.2.2.2.2.2.2.2.2.2.2.1), .int .i64 (g.2.2.2.2.2.2.2.2.2.2.2.2.2.2.2.2.2.2.2.2.2.2.2.2.2.2.2.2.2), .string (x.1), .bool (x.2.1), .int .i64 (x.2.2.1), Slc.v (x.2.2.2.1), .int .i64 (x.2.2.2.2.1), Slc.v (x.2.2.2.2.2.1), Slc.v (x.2.2.2.2.2.2)] : List Value)[j]? = some v → wd.drew.cell? ⟨w.heap.size, j, none⟩ = some v := fun {j v} hj => by
    rw [(H.drew.get 0 rfl).cell, List.getElem?_toArray]
    exact hj
  refine ⟨Ext (fun _ => False) wd.drew, Ext.refl _ _, ldS_ext (x := tsize g) (cl rfl) ?_⟩
  refine LdST.blk (ts := LiA34) (pre := [.int .i64 (g.1), .int .i64 (g.2.1), .int .i64 (g.2.2.1), .int .i64 (g.2.2.2.1), .int .i64 (g.2.2.2.2.1), .int .i64 (g.2.2.2.2.2.1), .int .i64 (g.2.2.2.2.2.2.1), .int .i64 (g.2.2.2.2.2.2.2.1), .int .i64 (g.2.2.2.2.2.2.2.2.1), .int .i64 (g.2.2.2.2.2.2.2.2.2.1), Slc.v (g.2.2.2.2.2.2.2.2.2.2.1), .int .i64 (g.2.2.2.2.2.2.2.2.2.2.2.1), .int .i64 (g.2.2.2.2.2.2.2.2.2.2.2.2.1), .int .i64 (g.2.2.2.2.2.2.2.2.2.2.2.2.2.1), .int .i64 (g.2.2.2.2.2.2.2.2.2.2.2.2.2.2.1), .int .i64 (g.2.2.2.2.2.2.2.2.2.2.2.2.2.2.2.1), .int .i64 (g.2.2.2.2.2.2.2.2.2.2.2.2.2.2.2.2.1), .int .i64 (g.2.2.2.2.2.2.2.2.2.2.2.2.2.2.2.2.2.1), .int .i64 (g.2.2.2.2.2.2.2.2.2.2.2.2.2.2.2.2.2.2.1), .int .i64 (g.2.2.2.2.2.2.2.2.2.2.2.2.2.2.2.2.2.2.2.1), .int .i64 (g.2.2.2.2.2.2.2.2.2.2.2.2.2.2.2.2.2.2.2.2.1), .int .i64 (g.2.2.2.2.2.2.2.2.2.2.2.2.2.2.2.2.2.2.2.2.2.1), .int .i64 (g.2.2.2.2.2.2.2.2.2.2.2.2.2.2.2.2.2.2.2.2.2.2.1), .int .i64 (g.2.2.2.2.2.2.2.2.2.2.2.2.2.2.2.2.2.2.2.2.2.2.2.1), .int .i64 (g.2.2.2.2.2.2.2.2.2.2.2.2.2.2.2.2.2.2.2.2.2.2.2.2.1), .int .i64 (g.2.2.2.2.2.2.2.2.2.2.2.2.2.2.2.2.2.2.2.2.2.2.2.2.2.1), .int .i64 (g.2.2.2.2.2.2.2.2.2.2.2.2.2.2.2.2.2.2.2.2.2.2.2.2.2.2.1), .int .i64 (g.2.2.2.2.2.2.2.2.2.2.2.2.2.2.2.2.2.2.2.2.2.2.2.2.2.2.2.1), .string (g.2.2.2.2.2.2.2.2.2.2.2.2.2.2.2.2.2.2.2.2.2.2.2.2.2.2.2.2.1), .int .i64 (g.2.2.2.2.2.2.2.2.2.2.2.2.2.2.2.2.2.2.2.2.2.2.2.2.2.2.2.2.2)]) (post := []) (t := 84) (x := x) (fun w' hw => hw.blk (H.drew.get 0 rfl) id) rfl ?_
  refine (c_width (h.keep hE.drew) (mayF_first hm) hc).mono ?_
  rintro r w8 ⟨rfl, e8⟩
  have hb := widthF_bd hm code
  rw [i64_id (n := 10 * widthF f code) (by omega)]
  refine ⟨e8, (c_mul2 _ _ _).mono ?_⟩
  rintro r e w11 ⟨hr, e11⟩
  have E := (hE.drew.tr e8).tr e11
  unfold widthP
  cases hp : mulO (tsize g) (10 * widthF f code) with
  | some n =>
    rw [hp] at hr
    obtain ⟨rfl, rfl⟩ := Prod.mk.inj hr
    exact (c_mustI _ 0 _).mono (fun r w3 h => ⟨by rw [h.1], by rw [h.2.2]; exact E⟩) fun v w3 h => absurd rfl h.2.1
  | none =>
    rw [hp] at hr
    obtain ⟨rfl, rfl⟩ := Prod.mk.inj hr
    exact (c_mustI _ 2 _).mono (fun r w3 h => by cases h.2.1) fun v w3 h => ⟨h.1, rfl, by rw [h.2.2]; exact E⟩
theorem elJ : El Tryz.prog 25 2 1 8 (.int .i64 0) := ⟨by kernel_rfl, by kernel_rfl, by kernel_rfl, by kernel_rfl, rfl⟩
theorem irow_of {s : Slc} {l : List Int} (h : VRow w s 1 (l.flatMap icell)) : IRow w s l := by
  refine ⟨VRow.count icell_len (by decide) h, fun i hi => ?_⟩
  obtain ⟨a, ha, hc⟩ := VRow.elem icell_len h (List.getElem?_eq_getElem hi) (by decide)
  refine ⟨a, ha, ?_⟩
  have := hc 0 _ rfl
  rw [Nat.mul_one, Nat.add_zero] at this
  rw [List.getD_eq_getElem?_getD, List.getElem?_eq_getElem hi]
  exact this
theorem c_step (h : FoV w x f) (hs : inW (tscale g) = true) {code wd : Int} : C34 (hand g x) code wd w (fun r w1 => stepP g f code wd = some r ∧ Ext (fun _ => False) w w1) fun v w1 => v = gup 2 ∧ stepP g f code wd = none ∧ Ext (fun _ => False) w w1 := by
  refine T34 _ _ _ _ _ _ ?_
  unfold S34
  refine Nw.of ?_
  have H := ha_blk w g x
  generalize w.alloc (.cells (Sig.cells LiA83 (hand g x)).toArray 84) = wa at *
  have hlt := H.lt 0 rfl
  refine H.ld 0 rfl (x := tchar g) rfl (H.nw fun w6 H => ?_)
  have key : ∀ (s : Slc) (wb : World), Hn w wb [(w.heap.size, [.int .i64 (g.1), .int .i64 (g.2.1), .int .i64 (g.2.2.1), .int .i64 (g.2.2.2.1), .int .i64 (g.2.2.2.2.1), .int .i64 (g.2.2.2.2.2.1), .int .i64 (g.2.2.2.2.2.2.1), .int .i64 (g.2.2.2.2.2.2.2.1), .int .i64 (g.2.2.2.2.2.2.2.2.1), .int .i64 (g.2.2.2.2.2.2.2.2.2.1), Slc.v (g.2.2.2.2.2.2.2.2.2.2.1), .int .i64 (g.2.2.2.2.2.2.2.2.2.2.2.1), .int .i64 (g.2.2.2.2.2.2.2.2.2.2.2.2.1), .int .i64 (g.2.2.2.2.2.2.2.2.2.2.2.2.2.1), .int .i64 (g.2.2.2.2.2.2.2.2.2.2.2.2.2.2.1), .int .i64 (g.2.2.2.2.2.2.2.2.2.2.2.2.2.2.2.1), .int .i64 (g.2.2.2.2.2.2.2.2.2.2.2.2.2.2.2.2.1), .int .i64 (g.2.2.2.2.2.2.2.2.2.2.2.2.2.2.2.2.2.1), .int .i64 (g.2.2.2.2.2.2.2.2.2.2.2.2.2.2.2.2.2.2.1), .int .i64 (g.2.2.2.2.2.2.2.2.2.2.2.2.2.2.2.2.2.2.2.1), .int .i64 (g.2.2.2.2.2.2.2.2.2.2.2.2.2.2.2.2.2.2.2.2.1), .int .i64 (g.2.2.2.2.2.2.2.2.2.2.2.2.2.2.2.2.2.2.2.2.2.1), .int .i64 (g.2.2.2.2.2.2.2.2.2.2.2.2.2.2.2.2.2.2.2.2.2.2.1), .int .i64 (g.2.2.2.2.2.2.2.2.2.2.2.2.2.2.2.2.2.2.2.2.2.2.2.1), .int .i64 (g.2.2.2.2.2.2.2.2.2.2.2.2.2.2.2.2.2.2.2.2.2.2.2.2.1), .int .i64 (g.2.2.2.2.2.2.2.2.2.2.2.2.2.2.2.2.2.2.2.2.2.2.2.2.2.1), .int .i64 (g.2.2.2.2.2.2.2.2.2.2.2.2.2.2.2.2.2.2.2.2.2.2.2.2.2.2.1), .int .i64 (g.2.2.2.2.2.2.2.2.2.2.2.2.2.2.2.2.2.2.2.2.2.2.2.2.2.2.2.1), .string (g.2.2.2.2.2.2.2.2.2.2.2.2.2.2.2.2.2.2.2.2.2.2.2.2.2.2.2.2.1), .int .i64 (g.2.2.2.2.2.2.2.2.2.2.2.2.2.2.2.2.2.2.2.2.2.2.2.2.2.2.2.2.2), .string (x.1), .bool (x.2.1), .int .i64 (x.2.2.1), Slc.v (x.2.2.2.1), .int .i64 (x.2.2.2.2.1), Slc.v (x.2.2.2.2.2.1), Slc.v (x.2.2.2.2.2.2)], 84)] → IRow wb s (stepL g f code wd) → 
      ∃ vS35 : World → Prop, vS35 wb.drew ∧ LdST vS35 (⟨w.heap.size, 0, none⟩ : Addr) 0 LiA83 fun (x36 : HT) =>
        C63 s wb.drew fun r37 r38 vw39 =>
          vS35 vw39 ∧ C62 r37 r38 vw39 (fun r40 vw41 =>
            vS35 vw41 ∧ C61 x36 r40 vw41 (fun r42 vw43 => stepP g f code wd = some r42 ∧ Ext (fun _ => False) w vw43) (fun v w1 => v = gup 2 ∧ stepP g f code wd = none ∧ Ext (fun _ => False) w w1)) (fun v w1 => v = gup 2 ∧ stepP g f code wd = none ∧ Ext (fun _ => False) w w1) := fun s wb Hb hI => by
    have Hb := Hb.drew
    have EB := Hb.ext
    refine ⟨Ext (fun _ => False) wb.drew, Ext.refl _ _, ?_⟩
    refine LdST.blk (ts := LiA83) (pre := []) (post := []) (t := 84) (x := hand g x) (fun w' hw => hw.blk (Hb.get 0 rfl) id) rfl ?_
    refine (Pat.c_sum (hI.keep (Ext.refl _ _).drew) (by unfold stepL; split <;> simp)).mono ?_
    rintro r e w39 ⟨hr, e39⟩
    rw [sumF_res] at hr
    have E := EB.tr e39
    refine ⟨e39, ?_⟩
    unfold stepP
    cases hp : sumO (stepL g f code wd) with
    | none =>
      rw [hp] at hr
      obtain ⟨rfl, rfl⟩ := Prod.mk.inj hr
      exact (c_mustI _ 2 _).mono (fun r w3 h => by cases h.2.1) fun v w3 h => ⟨h.1, rfl, by rw [h.2.2]; exact E⟩
    | some n =>
      rw [hp] at hr
      obtain ⟨rfl, rfl⟩ := Prod.mk.inj hr
      refine (c_mustI _ 0 _).mono (fun r w3 h => ?_) fun v w3 h => absurd rfl h.2.1
      obtain ⟨rfl, _, rfl⟩ := h
      exact ⟨e39, (c_scaled x (sumO_in hp) hs _).mono (fun r w4 h => ⟨h.1, E.tr h.2⟩) fun v w4 h => ⟨h.1, h.2.1, E.tr h.2.2⟩⟩
  have hB := H.get 1 rfl
  have H0 : Hn w w6 [(w.heap.size, [.int .i64 (g.1), .int .i64 (g.2.1), .int .i64 (g.2.2.1), .int .i64 (g.2.2.2.1), .int .i64 (g.2.2.2.2.1), .int .i64 (g.2.2.2.2.2.1), .int .i64 (g.2.2.2.2.2.2.1), .int .i64 (g.2.2.2.2.2.2.2.1), .int .i64 (g.2.2.2.2.2.2.2.2.1), .int .i64 (g.2.2.2.2.2.2.2.2.2.1), Slc.v (g.2.2.2.2.2.2.2.2.2.2.1), .int .i64 (g.2.2.2.2.2.2.2.2.2.2.2.1), .int .i64 (g.2.2.2.2.2.2.2.2.2.2.2.2.1), .int .i64 (g.2.2.2.2.2.2.2.2.2.2.2.2.2.1), .int .i64 (g.2.2.2.2.2.2.2.2.2.2.2.2.2.2.1), .int .i64 (g.2.2.2.2.2.2.2.2.2.2.2.2.2.2.2.1), .int .i64 (g.2.2.2.2.2.2.2.2.2.2.2.2.2.2.2.2.1), .int .i64 (g.2.2.2.2.2.2.2.2.2.2.2.2.2.2.2.2.2.1), .int .i64 (g.2.2.2.2.2.2.2.2.2.2.2.2.2.2.2.2.2.2.1), .int .i64 (g.2.2.2.2.2.2.2.2.2.2.2.2.2.2.2.2.2.2.2.1), .int .i64 (g.2.2.2.2.2.2.2.2.2.2.2.2.2.2.2.2.2.2.2.2.1), .int .i64 (g.2.2.2.2.2.2.2.2.2.2.2.2.2.2.2.2.2.2.2.2.2.1), .int .i64 (g.2.2.2.2.2.2.2.2.2.2.2.2.2.2.2.2.2.2.2.2.2.2.1), .int .i64 (g.2.2.2.2.2.2.2.2.2.2.2.2.2.2.2.2.2.2.2.2.2.2.2.1), .int .i64 (g.2.2.2.2.2.2.2.2.2.2.2.2.2.2.2.2.2.2.2.2.2.2.2.2.1), .int .i64 (g.2.2.2.2.2.2.2.2.2.2.2.2.2.2.2.2.2.2.2.2.2.2.2.2.2.1), .int .i64 (g.2.2.2.2.2.2.2.2.2.2.2.2.2.2.2.2.2.2.2.2.2.2.2.2.2.2.1), .int .i64 (g.2.2.2.2.2.2.2.2.2.2.2.2.2.2.2.2.2.2.2.2.2.2.2.2.2.2.2.1), .string (g.2.2.2.2.2.2.2.2.2.2.2.2.2.2.2.2.2.2.2.2.2.2.2.2.2.2.2.2.1), .int .i64 (g.2.2.2.2.2.2.2.2.2.2.2.2.2.2.2.2.2.2.2.2.2.2.2.2.2.2.2.2.2), .string (x.1), .bool (x.2.1), .int .i64 (x.2.2.1), Slc.v (x.2.2.2.1), .int .i64 (x.2.2.2.2.1), Slc.v (x.2.2.2.2.2.1), Slc.v (x.2.2.2.2.2.2)], 84)] := Hn.left (M := [(wa.heap.size, [.int .i64 wd, .int .i64 (tchar g)], 2)]) H
  refine Br.eq (fun q => ?_) fun q => key _ _ H0 ?_
  case refine_2 =>
    unfold stepL
    rw [if_neg (by simp [q]), List.append_nil]
    exact row2 hB
  refine H.ld 0 rfl (x := x.2.1) rfl ?_
  rw [h.wide]
  cases hw : f.wide with
  | true =>
    refine Br.f rfl (key _ _ H0 ?_)
    unfold stepL
    rw [if_neg (by simp [hw]), List.append_nil]
    exact row2 hB
  | false =>
    refine Br.t rfl (H.ld 0 rfl (x := tword g) rfl (Nw.of ?_))
    have hrow : Row w6 ⟨some ⟨wa.heap.size, 0, none⟩, 2, 2⟩ 2 1 ([wd, tchar g].flatMap icell) := ⟨rfl, .inr ⟨_, _, rfl, hB, Nat.le_refl _, rfl, rfl⟩⟩
    have e1 := (Ext.refl (fun _ => False) w6).alloc (.cells (icell (tword g)).toArray 2)
    obtain ⟨s', w', hrun, hrow, hlen', hext, hown⟩ := elJ.app1 (ty := 25) (ys := icell (tword g)) (hrow.keep e1 fun _ _ e => e) (Blk.new w6 (icell (tword g)).toArray 2) rfl (icell_one _) (by show (2 + 1) * 8 ≤ 140737488355328; omega) (by show 2 + 1 ≤ 9223372036854775807; omega)
    refine ⟨s', w', hrun, key s' w' ((H0.keep e1).other hext fun j hj => ?_) ?_⟩
    · obtain ⟨a, ha, hb⟩ := hj
      cases ha
      have hb : wa.heap.size = j := hb
      exact ⟨by omega, by simp; omega⟩
    · unfold stepL
      rw [if_pos ⟨q, hw⟩]
      exact irow_of (Row.view (by rw [List.flatMap_append]; simpa using hrow))
end
end Sw
end Go.Proofs.YtcblpehnkogfdaaGreatDoor

/- Shown strings: one glyph. Conditions: sizes, the laid tables. -/
namespace Go.Proofs.YtcblpehnkogfdaaGreatDoor
namespace Sw
open Sh Mat Fix Fo
set_option linter.unusedVariables false
set_option linter.unusedSimpArgs false
set_option maxRecDepth 4000
set_option maxHeartbeats 4000000
attribute [local irreducible] Ld St Nw Nn Lt LdS
theorem mrow0 : ([.int .i64 0, .int .i64 0, .int .i64 0, .int .i64 0, .int .i64 0, .int .i64 0] : List Value) = mrow noM := rfl
theorem resM_yes {p : Option Mx} {r : Mx} (h : (r, (0 : Int)) = resM p) : p = some r := by
  cases p with
  | some q => cases h; rfl
  | none => cases h
theorem resM_no {p : Option Mx} {r : Mx} {e : Int} (h : (r, e) = resM p) (he : e ≠ 0) : p = none ∧ e = 2 := by
  cases p with
  | some q => cases h; exact absurd rfl he
  | none => cases h; exact ⟨rfl, rfl⟩
theorem resP_yes {p : Option (Int × Int)} {r : Int × Int} (h : (r, (0 : Int)) = resP p) : p = some r := by
  cases p with
  | some q => cases h; rfl
  | none => cases h
theorem resP_no {p : Option (Int × Int)} {r : Int × Int} {e : Int} (h : (r, e) = resP p) (he : e ≠ 0) : p = none ∧ e = 2 := by
  cases p with
  | some q => cases h; exact absurd rfl he
  | none => cases h; exact ⟨rfl, rfl⟩
theorem resI_yes {p : Option Int} {r : Int} (h : (r, (0 : Int)) = resI p) : p = some r := by
  cases p with
  | some q => cases h; rfl
  | none => cases h
theorem resI_no {p : Option Int} {r e : Int} (h : (r, e) = resI p) (he : e ≠ 0) : p = none ∧ e = 2 := by
  cases p with
  | some q => cases h; exact absurd rfl he
  | none => cases h; exact ⟨rfl, rfl⟩
theorem c_sign {w : World} {g : GT} {x : FT} {f : Font} (hT : TB w) (h : FoV w x f) (hm : mayF f = true) (hg : useG g = true) {code : Int} (hc : I64 code) (m : Mx) :
    C92 (hand g x) m code w (fun r r2 w1 => signP g f m code = some (r, r2) ∧ Ext (fun _ => False) w w1) fun v w1 => v = gup 2 ∧ signP g f m code = none ∧ Ext (fun _ => False) w w1 := by
  obtain ⟨g1, g2, g3, g4, g5, g6⟩ := useG_in hg
  refine T92 _ _ _ _ _ _ ?_
  unfold S92
  refine Nw.of ?_
  have H := ha_blk w g x
  generalize w.alloc (.cells (Sig.cells LiA83 (hand g x)).toArray 84) = wa at *
  refine H.nw fun w5 H => H.nw fun w6 H => H.nw fun w7 H => ?_
  refine H.ldT (i := 0) (pre := (Sig.cells LiA30 g).take 22) (post := [.string (x.1), .bool (x.2.1), .int .i64 (x.2.2.1), Slc.v (x.2.2.2.1), .int .i64 (x.2.2.2.2.1), Slc.v (x.2.2.2.2.2.1), Slc.v (x.2.2.2.2.2.2)]) (ts := LiA28) (x := tx g) rfl rfl ?_
  refine H.nw fun w9 H => ?_
  refine H.stT (i := 4) (pre := []) (post := []) (zs := [.int .i64 0, .int .i64 0, .int .i64 0, .int .i64 0, .int .i64 0, .int .i64 0, .string ⟨#[]⟩, .int .i64 0]) rfl rfl rfl fun w10 H => ?_
  refine H.ld 1 rfl (x := m.1) rfl (H.ld 1 rfl (x := m.2.1) rfl (H.ld 1 rfl (x := m.2.2.1) rfl (H.ld 1 rfl (x := m.2.2.2.1) rfl (H.ld 1 rfl (x := m.2.2.2.2.1) rfl (H.ld 1 rfl (x := m.2.2.2.2.2) rfl ?_)))))
  refine H.ld 0 rfl (x := g.1) rfl (H.ld 0 rfl (x := g.2.1) rfl (H.ld 0 rfl (x := g.2.2.1) rfl (H.ld 0 rfl (x := g.2.2.2.1) rfl (H.ld 0 rfl (x := g.2.2.2.2.1) rfl (H.ld 0 rfl (x := g.2.2.2.2.2.1) rfl ?_)))))
  refine (Mat.c_mul m (ctm g) _).mono ?_
  rintro all e w25 ⟨hall, e25⟩
  have H := H.keep e25
  refine (c_mustM all e _).mono (fun r w27 h27 => ?_) fun v w27 h27 => ?_
  case refine_2 =>
    obtain ⟨hn, rfl⟩ := resM_no hall h27.2.1
    exact ⟨h27.1, by unfold signP; rw [hn]; rfl, H.ext.tr h27.2.2⟩
  obtain ⟨rfl, rfl, e27⟩ := h27
  have hall := resM_yes hall
  have H := H.keep e27
  refine H.nw fun w28 H => ?_
  simp only [List.nil_append, List.cons_append, List.set_cons_zero, List.set_cons_succ, Nat.zero_add] at H
  iterate 6 (refine H.st 5 rfl (by simp) fun _ H => ?_; simp only [List.nil_append, List.cons_append, List.set_cons_zero, List.set_cons_succ, Nat.zero_add] at H)
  refine H.ldT (i := 0) (pre := []) (post := []) (ts := LiA83) (x := hand g x) rfl rfl ?_
  refine (c_wide (g := g) (h.keep H.ext) hm hc).mono (fun wd w37 h37 => ?_) fun v w37 h37 => ?_
  case refine_2 => exact ⟨h37.1, by unfold signP; rw [hall]; show Option.bind (widthP g f code) _ = _; rw [h37.2.1]; rfl, H.ext.tr h37.2.2⟩
  obtain ⟨hwd, e37⟩ := h37
  have H := H.keep e37
  refine H.ldT (i := 0) (pre := []) (post := []) (ts := LiA83) (x := hand g x) rfl rfl ?_
  refine (c_scaled x (mulO_in hwd) g4 _).mono (fun en w40 h40 => ?_) fun v w40 h40 => ?_
  case refine_2 => exact ⟨h40.1, by unfold signP; rw [hall]; show Option.bind (widthP g f code) _ = _; rw [hwd]; show Option.bind (scaledP g wd) _ = _; rw [h40.2.1]; rfl, H.ext.tr h40.2.2⟩
  obtain ⟨hen, e40⟩ := h40
  have H := (H.keep e40).drew
  have hsg : signP g f m code = (applyP r (0, trise g)).bind fun a => (applyP r (en, trise g)).bind fun b =>
      (lenO r (0, tsize g)).bind fun hi => (stepP g f code wd).bind fun st => (mulP (moveM st 0) m).bind fun m' => some ((code, ⟨(sayF f code).toArray⟩, a.1, a.2, b.1, b.2, hi, tfont g, tmode g), m') := by
    unfold signP
    rw [hall]
    show Option.bind (widthP g f code) _ = _
    rw [hwd]
    show Option.bind (scaledP g wd) _ = _
    rw [hen]
    rfl
  have n1 : applyP r (0, trise g) = none → signP g f m code = none := fun e => by rw [hsg, e]; rfl
  have n2 : applyP r (en, trise g) = none → signP g f m code = none := fun e => by
    rw [hsg, e]
    cases applyP r (0, trise g) <;> rfl
  have n3 : lenO r (0, tsize g) = none → signP g f m code = none := fun e => by
    rw [hsg, e]
    cases applyP r (0, trise g)
    · rfl
    · cases applyP r (en, trise g) <;> rfl
  have H0 := H
  have E0 := H0.ext
  have cl : ∀ {i b j : Nat} {cs : List Value} {t : TypeId} {v : Value}, _ = some (b, cs, t) → cs[j]? = some v → w40.drew.cell? ⟨b, j, none⟩ = some v := fun {i b j cs t v} hi hj => by
    rw [(H0.get i hi).cell, List.getElem?_toArray]
    exact hj
  refine ⟨fun s ws => ∃ (a b : Int × Int) (hi : Int) (bk : Nat), applyP r (0, trise g) = some a ∧ applyP r (en, trise g) = some b ∧ lenO r (0, tsize g) = some hi ∧ s = ⟨bk, 0, none⟩ ∧ Ext (fun _ => False) w40.drew ws ∧
    Blk ws bk (Sig.cells LiA69 (code, ⟨(sayF f code).toArray⟩, a.1, a.2, b.1, b.2, hi, tfont g, tmode g)).toArray 70, ?_, ?_⟩
  case refine_1 =>
    rintro s ws ⟨a, b, hi, bk, ha, hb, hh, rfl, es, hbk⟩
    unfold S92J1
    have H := (H0.keep es).drew
    have hbk : Blk ws.drew bk _ _ := hbk.drew
    have E1 := H.ext
    have cl : ∀ {i b j : Nat} {cs : List Value} {t : TypeId} {v : Value}, _ = some (b, cs, t) → cs[j]? = some v → ws.drew.cell? ⟨b, j, none⟩ = some v := fun {i b j cs t v} hi hj => by
      rw [(H.get i hi).cell, List.getElem?_toArray]
      exact hj
    refine ⟨Ext (fun _ => False) ws.drew, Ext.refl _ _, LdST.blk (ts := LiA69) (pre := []) (post := []) (t := 70) (x := (code, ⟨(sayF f code).toArray⟩, a.1, a.2, b.1, b.2, hi, tfont g, tmode g)) (fun w' hw => hw.blk hbk id) rfl ?_⟩
    refine LdST.blk (ts := LiA83) (pre := []) (post := []) (t := 84) (x := hand g x) (fun w' hw => hw.blk (H.get 0 rfl) id) rfl ?_
    refine ldS_ext (x := m.1) (cl (i := 1) rfl rfl) (ldS_ext (x := m.2.1) (cl (i := 1) rfl rfl) (ldS_ext (x := m.2.2.1) (cl (i := 1) rfl rfl) (ldS_ext (x := m.2.2.2.1) (cl (i := 1) rfl rfl) (ldS_ext (x := m.2.2.2.2.1) (cl (i := 1) rfl rfl) (ldS_ext (x := m.2.2.2.2.2) (cl (i := 1) rfl rfl) ?_)))))
    have hsg2 : signP g f m code = (stepP g f code wd).bind fun st => (mulP (moveM st 0) m).bind fun m' => some ((code, ⟨(sayF f code).toArray⟩, a.1, a.2, b.1, b.2, hi, tfont g, tmode g), m') := by
      rw [hsg, ha, hb, hh]
      rfl
    refine (c_step (g := g) (h.keep E1) g4).mono (fun st w179 h179 => ?_) fun v w179 h179 => ⟨h179.1, by rw [hsg2, h179.2.1]; rfl, E1.tr h179.2.2⟩
    obtain ⟨hst, e179⟩ := h179
    refine ⟨e179, (c_move st 0 _).mono ?_⟩
    rintro mv w181 ⟨rfl, e181⟩
    refine ⟨e179.tr e181, (Mat.c_mul (moveM st 0) m _).mono ?_⟩
    rintro nx e w184 ⟨hnx, e184⟩
    have e3 := (e179.tr e181).tr e184
    refine ⟨e3, (c_mustM nx e _).mono (fun r2 w186 h186 => ?_) fun v w186 h186 => ?_⟩
    case refine_2 =>
      obtain ⟨hn, rfl⟩ := resM_no hnx h186.2.1
      exact ⟨h186.1, by rw [hsg2, hst]; show Option.bind (mulP (moveM st 0) m) _ = _; rw [hn]; rfl, (E1.tr e3).tr h186.2.2⟩
    obtain ⟨rfl, rfl, e186⟩ := h186
    have hnx := resM_yes hnx
    have H := H.keep (e3.tr e186)
    refine ⟨e3.tr e186, H.stT (i := 2) (ts := LiA69) (pre := []) (post := []) (zs := [.int .i64 0, .string ⟨#[]⟩, .int .i64 0, .int .i64 0, .int .i64 0, .int .i64 0, .int .i64 0, .string ⟨#[]⟩, .int .i64 0]) rfl rfl rfl fun w187 H => ?_⟩
    simp only [List.nil_append, List.cons_append, List.set_cons_zero, List.set_cons_succ, Nat.zero_add] at H
    iterate 6 (refine H.st 3 rfl (by simp) fun _ H => ?_; simp only [List.nil_append, List.cons_append, List.set_cons_zero, List.set_cons_succ, Nat.zero_add] at H)
    refine H.ldT (i := 2) (ts := LiA69) (pre := []) (post := []) (x := (code, ⟨(sayF f code).toArray⟩, a.1, a.2, b.1, b.2, hi, tfont g, tmode g)) rfl rfl ?_
    iterate 6 refine H.ld 3 rfl rfl ?_
    exact ⟨by rw [hsg2, hst]; show Option.bind (mulP (moveM st 0) m) _ = _; rw [hnx]; rfl, H.ext⟩
  have fin : ∀ {a b : Int × Int} {hi : Int} {ws : World} {bk : Nat}, applyP r (0, trise g) = some a → applyP r (en, trise g) = some b → lenO r (0, tsize g) = some hi →
      Hn w40.drew ws [(bk, Sig.cells LiA69 (code, ⟨(sayF f code).toArray⟩, a.1, a.2, b.1, b.2, hi, tfont g, tmode g), 70)] → ∃ (a b : Int × Int) (hi : Int) (bk' : Nat), applyP r (0, trise g) = some a ∧ applyP r (en, trise g) = some b ∧ lenO r (0, tsize g) = some hi ∧ (⟨bk, 0, none⟩ : Addr) = ⟨bk', 0, none⟩ ∧ Ext (fun _ => False) w40.drew ws ∧
      Blk ws bk' (Sig.cells LiA69 (code, ⟨(sayF f code).toArray⟩, a.1, a.2, b.1, b.2, hi, tfont g, tmode g)).toArray 70 := fun {a b hi ws bk} ha hb hh H => ⟨a, b, hi, bk, ha, hb, hh, rfl, H.ext, H.get 0 rfl⟩
  refine ⟨Ext (fun _ => False) w40.drew, Ext.refl _ _, ?_⟩
  refine LdST.blk (ts := LiA34) (pre := [.int .i64 (g.1), .int .i64 (g.2.1), .int .i64 (g.2.2.1), .int .i64 (g.2.2.2.1), .int .i64 (g.2.2.2.2.1), .int .i64 (g.2.2.2.2.2.1), .int .i64 (g.2.2.2.2.2.2.1), .int .i64 (g.2.2.2.2.2.2.2.1), .int .i64 (g.2.2.2.2.2.2.2.2.1), .int .i64 (g.2.2.2.2.2.2.2.2.2.1), Slc.v (g.2.2.2.2.2.2.2.2.2.2.1), .int .i64 (g.2.2.2.2.2.2.2.2.2.2.2.1), .int .i64 (g.2.2.2.2.2.2.2.2.2.2.2.2.1), .int .i64 (g.2.2.2.2.2.2.2.2.2.2.2.2.2.1), .int .i64 (g.2.2.2.2.2.2.2.2.2.2.2.2.2.2.1), .int .i64 (g.2.2.2.2.2.2.2.2.2.2.2.2.2.2.2.1), .int .i64 (g.2.2.2.2.2.2.2.2.2.2.2.2.2.2.2.2.1), .int .i64 (g.2.2.2.2.2.2.2.2.2.2.2.2.2.2.2.2.2.1), .int .i64 (g.2.2.2.2.2.2.2.2.2.2.2.2.2.2.2.2.2.2.1), .int .i64 (g.2.2.2.2.2.2.2.2.2.2.2.2.2.2.2.2.2.2.2.1), .int .i64 (g.2.2.2.2.2.2.2.2.2.2.2.2.2.2.2.2.2.2.2.2.1), .int .i64 (g.2.2.2.2.2.2.2.2.2.2.2.2.2.2.2.2.2.2.2.2.2.1), .int .i64 (g.2.2.2.2.2.2.2.2.2.2.2.2.2.2.2.2.2.2.2.2.2.2.1), .int .i64 (g.2.2.2.2.2.2.2.2.2.2.2.2.2.2.2.2.2.2.2.2.2.2.2.1), .int .i64 (g.2.2.2.2.2.2.2.2.2.2.2.2.2.2.2.2.2.2.2.2.2.2.2.2.1), .int .i64 (g.2.2.2.2.2.2.2.2.2.2.2.2.2.2.2.2.2.2.2.2.2.2.2.2.2.1), .int .i64 (g.2.2.2.2.2.2.2.2.2.2.2.2.2.2.2.2.2.2.2.2.2.2.2.2.2.2.1), .int .i64 (g.2.2.2.2.2.2.2.2.2.2.2.2.2.2.2.2.2.2.2.2.2.2.2.2.2.2.2.1), .string (g.2.2.2.2.2.2.2.2.2.2.2.2.2.2.2.2.2.2.2.2.2.2.2.2.2.2.2.2.1), .int .i64 (g.2.2.2.2.2.2.2.2.2.2.2.2.2.2.2.2.2.2.2.2.2.2.2.2.2.2.2.2.2)]) (post := []) (t := 84) (x := x) (fun w' hw => hw.blk (H0.get 0 rfl) id) rfl ?_
  refine ldS_ext (x := r.1) (cl (i := 5) rfl rfl) (ldS_ext (x := r.2.1) (cl (i := 5) rfl rfl) (ldS_ext (x := r.2.2.1) (cl (i := 5) rfl rfl) (ldS_ext (x := r.2.2.2.1) (cl (i := 5) rfl rfl) (ldS_ext (x := r.2.2.2.2.1) (cl (i := 5) rfl rfl) (ldS_ext (x := r.2.2.2.2.2) (cl (i := 5) rfl rfl) ?_)))))
  refine ldS_ext (x := trise g) (cl (i := 4) rfl rfl) ?_
  refine ldS_ext (x := r.1) (cl (i := 5) rfl rfl) (ldS_ext (x := r.2.1) (cl (i := 5) rfl rfl) (ldS_ext (x := r.2.2.1) (cl (i := 5) rfl rfl) (ldS_ext (x := r.2.2.2.1) (cl (i := 5) rfl rfl) (ldS_ext (x := r.2.2.2.2.1) (cl (i := 5) rfl rfl) (ldS_ext (x := r.2.2.2.2.2) (cl (i := 5) rfl rfl) ?_)))))
  refine ldS_ext (x := trise g) (cl (i := 4) rfl rfl) ?_
  refine ldS_ext (x := r.1) (cl (i := 5) rfl rfl) (ldS_ext (x := r.2.1) (cl (i := 5) rfl rfl) (ldS_ext (x := r.2.2.1) (cl (i := 5) rfl rfl) (ldS_ext (x := r.2.2.2.1) (cl (i := 5) rfl rfl) (ldS_ext (x := r.2.2.2.2.1) (cl (i := 5) rfl rfl) (ldS_ext (x := r.2.2.2.2.2) (cl (i := 5) rfl rfl) ?_)))))
  refine ldS_ext (x := tsize g) (cl (i := 4) rfl rfl) (ldS_ext (x := tfont g) (cl (i := 4) rfl rfl) (ldS_ext (x := tmode g) (cl (i := 4) rfl rfl) ?_))
  have hsay : ∀ {L : List (Nat × List Value × TypeId)} {wb : World} {K : ByteArray → World → Prop}, Hn w40.drew wb L → (∀ w1, Hn w40.drew w1 L → K ⟨(sayF f code).toArray⟩ w1) → C120 x code wb K := fun {L wb K} H k =>
    (c_say (hT.keep (E0.tr H.ext)) (h.keep (E0.tr H.ext)) code).mono fun r w1 h1 => by rw [h1.1]; exact k w1 (H.keep h1.2)
  have happ : ∀ (p : Int × Int) {L : List (Nat × List Value × TypeId)} {wb : World} {K : Int × Int → Int → World → Prop}, Hn w40.drew wb L → (∀ q e w1, (q, e) = resP (applyP r p) → Hn w40.drew w1 L → K q e w1) → C122 r p wb K := fun p {L wb K} H k =>
    (c_apply r p wb).mono fun q e w1 h1 => k q e w1 h1.1 (H.keep h1.2)
  have hlen : ∀ {L : List (Nat × List Value × TypeId)} {wb : World} {K : Int → Int → World → Prop}, Hn w40.drew wb L → (∀ q e w1, (q, e) = resI (lenO r (0, tsize g)) → Hn w40.drew w1 L → K q e w1) → C123 r (0, tsize g) wb K := fun {L wb K} H k =>
    (c_length r (0, tsize g) wb).mono fun q e w1 h1 => k q e w1 (lenO_eq h1.1) (H.keep h1.2)
  have hmust : ∀ {p : Option (Int × Int)} {q : Int × Int} {e : Int} {L : List (Nat × List Value × TypeId)} {wb : World} {K : Int × Int → World → Prop}, (q, e) = resP p → (p = none → signP g f m code = none) → Hn w40.drew wb L → (∀ a w1, p = some a → Hn w40.drew w1 L → K a w1) →
      C121 q e wb K (fun v w1 => v = gup 2 ∧ signP g f m code = none ∧ Ext (fun _ => False) w w1) := fun {p q e L wb K} hr n H k =>
    (c_mustP q e wb).mono (fun q2 w1 h1 => by
      obtain ⟨rfl, rfl, e1⟩ := h1
      exact k _ w1 (resP_yes hr) (H.keep e1)) fun v w1 h1 => by
      obtain ⟨hn, rfl⟩ := resP_no hr h1.2.1
      exact ⟨h1.1, n hn, E0.tr (H.ext.tr h1.2.2)⟩
  have hmusi : ∀ {p : Option Int} {q : Int} {e : Int} {L : List (Nat × List Value × TypeId)} {wb : World} {K : Int → World → Prop}, (q, e) = resI p → (p = none → signP g f m code = none) → Hn w40.drew wb L → (∀ a w1, p = some a → Hn w40.drew w1 L → K a w1) →
      C62 q e wb K (fun v w1 => v = gup 2 ∧ signP g f m code = none ∧ Ext (fun _ => False) w w1) := fun {p q e L wb K} hr n H k =>
    (c_mustI q e wb).mono (fun q2 w1 h1 => by
      obtain ⟨rfl, rfl, rfl⟩ := h1
      exact k _ w1 (resI_yes hr) H) fun v w1 h1 => by
      obtain ⟨hn, rfl⟩ := resI_no hr h1.2.1
      exact ⟨h1.1, n hn, by rw [h1.2.2]; exact E0.tr H.ext⟩
  have H := Hn.start w40.drew
  refine ⟨?_, ?_⟩
  · refine hsay H fun w1 H => ⟨H.ext, ?_⟩
    refine ⟨?_, ?_⟩
    · refine happ _ H fun r e w1 hr H => ⟨H.ext, ?_⟩
      refine ⟨?_, ?_⟩
      · refine hmust hr n1 H fun a w1 ha H => ⟨H.ext, ?_⟩
        refine ⟨?_, ?_⟩
        · refine happ _ H fun r e w1 hr H => ⟨H.ext, ?_⟩
          refine ⟨?_, ?_⟩
          · refine hmust hr n2 H fun b w1 hb H => ⟨H.ext, ?_⟩
            refine ⟨?_, ?_⟩
            · refine hlen H fun r e w1 hr H => ⟨H.ext, ?_⟩
              refine ⟨?_, ?_⟩
              · refine hmusi hr n3 H fun hi w1 hh H => ⟨H.ext, ?_⟩
                refine H.nw fun w1 H => ⟨H.ext, ?_⟩
                refine H.stT (i := 0) (ts := LiA69) (pre := []) (post := []) (zs := [.int .i64 0, .string ⟨#[]⟩, .int .i64 0, .int .i64 0, .int .i64 0, .int .i64 0, .int .i64 0, .string ⟨#[]⟩, .int .i64 0]) rfl rfl rfl fun w1 H => ?_
                exact fin ha hb hh H
              · refine H.nw fun w1 H => ⟨H.ext, ?_⟩
                refine hmusi hr n3 H fun hi w1 hh H => ⟨H.ext, ?_⟩
                refine H.stT (i := 0) (ts := LiA69) (pre := []) (post := []) (zs := [.int .i64 0, .string ⟨#[]⟩, .int .i64 0, .int .i64 0, .int .i64 0, .int .i64 0, .int .i64 0, .string ⟨#[]⟩, .int .i64 0]) rfl rfl rfl fun w1 H => ?_
                exact fin ha hb hh H
            · refine H.nw fun w1 H => ⟨H.ext, ?_⟩
              refine hlen H fun r e w1 hr H => ⟨H.ext, ?_⟩
              refine hmusi hr n3 H fun hi w1 hh H => ⟨H.ext, ?_⟩
              refine H.stT (i := 0) (ts := LiA69) (pre := []) (post := []) (zs := [.int .i64 0, .string ⟨#[]⟩, .int .i64 0, .int .i64 0, .int .i64 0, .int .i64 0, .int .i64 0, .string ⟨#[]⟩, .int .i64 0]) rfl rfl rfl fun w1 H => ?_
              exact fin ha hb hh H
          · refine H.nw fun w1 H => ⟨H.ext, ?_⟩
            refine hmust hr n2 H fun b w1 hb H => ⟨H.ext, ?_⟩
            refine hlen H fun r e w1 hr H => ⟨H.ext, ?_⟩
            refine hmusi hr n3 H fun hi w1 hh H => ⟨H.ext, ?_⟩
            refine H.stT (i := 0) (ts := LiA69) (pre := []) (post := []) (zs := [.int .i64 0, .string ⟨#[]⟩, .int .i64 0, .int .i64 0, .int .i64 0, .int .i64 0, .int .i64 0, .string ⟨#[]⟩, .int .i64 0]) rfl rfl rfl fun w1 H => ?_
            exact fin ha hb hh H
        · refine H.nw fun w1 H => ⟨H.ext, ?_⟩
          refine happ _ H fun r e w1 hr H => ⟨H.ext, ?_⟩
          refine hmust hr n2 H fun b w1 hb H => ⟨H.ext, ?_⟩
          refine hlen H fun r e w1 hr H => ⟨H.ext, ?_⟩
          refine hmusi hr n3 H fun hi w1 hh H => ⟨H.ext, ?_⟩
          refine H.stT (i := 0) (ts := LiA69) (pre := []) (post := []) (zs := [.int .i64 0, .string ⟨#[]⟩, .int .i64 0, .int .i64 0, .int .i64 0, .int .i64 0, .int .i64 0, .string ⟨#[]⟩, .int .i64 0]) rfl rfl rfl fun w1 H => ?_
          exact fin ha hb hh H
      · refine H.nw fun w1 H => ⟨H.ext, ?_⟩
        refine hmust hr n1 H fun a w1 ha H => ⟨H.ext, ?_⟩
        refine happ _ H fun r e w1 hr H => ⟨H.ext, ?_⟩
        refine hmust hr n2 H fun b w1 hb H => ⟨H.ext, ?_⟩
        refine hlen H fun r e w1 hr H => ⟨H.ext, ?_⟩
        refine hmusi hr n3 H fun hi w1 hh H => ⟨H.ext, ?_⟩
        refine H.stT (i := 0) (ts := LiA69) (pre := []) (post := []) (zs := [.int .i64 0, .string ⟨#[]⟩, .int .i64 0, .int .i64 0, .int .i64 0, .int .i64 0, .int .i64 0, .string ⟨#[]⟩, .int .i64 0]) rfl rfl rfl fun w1 H => ?_
        exact fin ha hb hh H
    · refine H.nw fun w1 H => ⟨H.ext, ?_⟩
      refine happ _ H fun r e w1 hr H => ⟨H.ext, ?_⟩
      refine hmust hr n1 H fun a w1 ha H => ⟨H.ext, ?_⟩
      refine happ _ H fun r e w1 hr H => ⟨H.ext, ?_⟩
      refine hmust hr n2 H fun b w1 hb H => ⟨H.ext, ?_⟩
      refine hlen H fun r e w1 hr H => ⟨H.ext, ?_⟩
      refine hmusi hr n3 H fun hi w1 hh H => ⟨H.ext, ?_⟩
      refine H.stT (i := 0) (ts := LiA69) (pre := []) (post := []) (zs := [.int .i64 0, .string ⟨#[]⟩, .int .i64 0, .int .i64 0, .int .i64 0, .int .i64 0, .int .i64 0, .string ⟨#[]⟩, .int .i64 0]) rfl rfl rfl fun w1 H => ?_
      exact fin ha hb hh H
  · refine H.nw fun w1 H => ⟨H.ext, ?_⟩
    refine hsay H fun w1 H => ⟨H.ext, ?_⟩
    refine happ _ H fun r e w1 hr H => ⟨H.ext, ?_⟩
    refine hmust hr n1 H fun a w1 ha H => ⟨H.ext, ?_⟩
    refine happ _ H fun r e w1 hr H => ⟨H.ext, ?_⟩
    refine hmust hr n2 H fun b w1 hb H => ⟨H.ext, ?_⟩
    refine hlen H fun r e w1 hr H => ⟨H.ext, ?_⟩
    refine hmusi hr n3 H fun hi w1 hh H => ⟨H.ext, ?_⟩
    refine H.stT (i := 0) (ts := LiA69) (pre := []) (post := []) (zs := [.int .i64 0, .string ⟨#[]⟩, .int .i64 0, .int .i64 0, .int .i64 0, .int .i64 0, .int .i64 0, .string ⟨#[]⟩, .int .i64 0]) rfl rfl rfl fun w1 H => ?_
    exact fin ha hb hh H
end Sw
end Go.Proofs.YtcblpehnkogfdaaGreatDoor

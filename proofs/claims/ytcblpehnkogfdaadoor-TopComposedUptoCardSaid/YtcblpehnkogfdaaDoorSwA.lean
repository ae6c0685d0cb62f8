/- Shown strings: what a glyph, a step and a text are, plain; numbers rounded. Conditions: sizes. -/
import Derived.Test.YtcblpehnkogfdaaDoorPaA
import Derived.Test.YtcblpehnkogfdaaDoorFoF
import Derived.Test.YtcblpehnkogfdaaDoorFnShow
namespace Go.Proofs.YtcblpehnkogfdaaDoor
namespace Sw
open Sh Mat Fix Fo
set_option linter.unusedVariables false
set_option linter.unusedSimpArgs false
set_option maxRecDepth 4000
set_option maxHeartbeats 2000000
abbrev GT := TyA29
abbrev HT := TyA60
abbrev GlT := TyA44
abbrev TxT := TyA27
/-- A hand: a state and a font. -/
def hand (g : GT) (f : FT) : HT := (g.1, g.2.1, g.2.2.1, g.2.2.2.1, g.2.2.2.2.1, g.2.2.2.2.2.1, g.2.2.2.2.2.2.1, g.2.2.2.2.2.2.2.1, g.2.2.2.2.2.2.2.2.1, g.2.2.2.2.2.2.2.2.2.1, g.2.2.2.2.2.2.2.2.2.2.1, g.2.2.2.2.2.2.2.2.2.2.2.1, g.2.2.2.2.2.2.2.2.2.2.2.2.1, g.2.2.2.2.2.2.2.2.2.2.2.2.2.1, g.2.2.2.2.2.2.2.2.2.2.2.2.2.2.1, g.2.2.2.2.2.2.2.2.2.2.2.2.2.2.2.1, g.2.2.2.2.2.2.2.2.2.2.2.2.2.2.2.2.1, g.2.2.2.2.2.2.2.2.2.2.2.2.2.2.2.2.2.1, g.2.2.2.2.2.2.2.2.2.2.2.2.2.2.2.2.2.2.1, g.2.2.2.2.2.2.2.2.2.2.2.2.2.2.2.2.2.2.2.1, g.2.2.2.2.2.2.2.2.2.2.2.2.2.2.2.2.2.2.2.2.1, g.2.2.2.2.2.2.2.2.2.2.2.2.2.2.2.2.2.2.2.2.2.1, g.2.2.2.2.2.2.2.2.2.2.2.2.2.2.2.2.2.2.2.2.2.2.1, g.2.2.2.2.2.2.2.2.2.2.2.2.2.2.2.2.2.2.2.2.2.2.2.1, g.2.2.2.2.2.2.2.2.2.2.2.2.2.2.2.2.2.2.2.2.2.2.2.2.1, g.2.2.2.2.2.2.2.2.2.2.2.2.2.2.2.2.2.2.2.2.2.2.2.2.2.1, g.2.2.2.2.2.2.2.2.2.2.2.2.2.2.2.2.2.2.2.2.2.2.2.2.2.2.1, g.2.2.2.2.2.2.2.2.2.2.2.2.2.2.2.2.2.2.2.2.2.2.2.2.2.2.2.1, g.2.2.2.2.2.2.2.2.2.2.2.2.2.2.2.2.2.2.2.2.2.2.2.2.2.2.2.2.1, g.2.2.2.2.2.2.2.2.2.2.2.2.2.2.2.2.2.2.2.2.2.2.2.2.2.2.2.2.2, f.1, f.2.1, f.2.2.1, f.2.2.2.1, f.2.2.2.2.1, f.2.2.2.2.2.1, f.2.2.2.2.2.2)
def ctm (g : GT) : Mx := (g.1, g.2.1, g.2.2.1, g.2.2.2.1, g.2.2.2.2.1, g.2.2.2.2.2.1)
def tx (g : GT) : TxT := g.2.2.2.2.2.2.2.2.2.2.2.2.2.2.2.2.2.2.2.2.2.2
def tchar (g : GT) : Int := (tx g).1
def tword (g : GT) : Int := (tx g).2.1
def tscale (g : GT) : Int := (tx g).2.2.1
def tlead (g : GT) : Int := (tx g).2.2.2.1
def tsize (g : GT) : Int := (tx g).2.2.2.2.1
def trise (g : GT) : Int := (tx g).2.2.2.2.2.1
def tfont (g : GT) : ByteArray := (tx g).2.2.2.2.2.2.1
def tmode (g : GT) : Int := (tx g).2.2.2.2.2.2.2
def texts (g : GT) : List Int := [tchar g, tword g, tscale g, tlead g, tsize g, trise g]
def useG (g : GT) : Bool := Mat.okM (ctm g) && (texts g).all inW
/-- Rounded to nearest, by a million. -/
def near6 (n : Int) : Int := (n + 500000) / 1000000
def mulO (a b : Int) : Option Int := if inW a = true ∧ inW b = true ∧ inW (near (a * b)) = true then some (near (a * b)) else none
def sumO (l : List Int) : Option Int := if l.all inW = true ∧ inW (Pat.ps l l.length) = true then some (Pat.ps l l.length) else none
def resI : Option Int → Int × Int
  | some n => (n, 0)
  | none => (0, 2)
theorem sumF_res (l : List Int) : Pat.sumF l = resI (sumO l) := by
  unfold Pat.sumF sumO
  split <;> rfl
theorem sumO_in {l : List Int} {n : Int} (h : sumO l = some n) : inW n = true := by
  unfold sumO at h
  split at h
  · rename_i h1
    cases h
    exact h1.2
  · cases h
theorem mulO_in {a b n : Int} (h : mulO a b = some n) : inW n = true := by
  unfold mulO at h
  split at h
  · rename_i h1
    cases h
    exact h1.2.2
  · cases h
/-- The length of a vector's image. -/
theorem len_ex (m : Mx) (p : Int × Int) : ∃ x, IsLen m p x := by
  unfold IsLen
  cases ha : applyP (flat m) p with
  | none => exact ⟨_, rfl⟩
  | some q =>
    obtain ⟨i1, i2⟩ := applyP_in ha
    have hb := sq_bd i1 i2
    have hr : ∀ n : Nat, ∃ s : Nat, s * s ≤ n ∧ n < (s + 1) * (s + 1) := fun n => by
      induction n with
      | zero => exact ⟨0, by omega, by omega⟩
      | succ n ih =>
        obtain ⟨s, h1, h2⟩ := ih
        by_cases e : n + 1 < (s + 1) * (s + 1)
        · exact ⟨s, by omega, e⟩
        · refine ⟨s + 1, by omega, ?_⟩
          have : (s + 1 + 1) * (s + 1 + 1) = (s + 1) * (s + 1) + 2 * s + 3 := by rw [Nat.add_mul (s + 1) 1, Nat.mul_add (s + 1)]; omega
          omega
    obtain ⟨s, h1, h2⟩ := hr (q.1 * q.1 + q.2 * q.2).toNat
    refine ⟨_, (s : Int), ⟨by omega, ?_, ?_⟩, rfl⟩
    · have : ((s * s : Nat) : Int) = (s : Int) * (s : Int) := by simp
      omega
    · have : (((s + 1) * (s + 1) : Nat) : Int) = ((s : Int) + 1) * ((s : Int) + 1) := by simp
      omega
open Classical in
noncomputable def lenO (m : Mx) (p : Int × Int) : Option Int := if IsLen m p (0, 2) then none else if h : ∃ n, IsLen m p (n, 0) then some (Classical.choose h) else none
theorem lenO_eq {m : Mx} {p : Int × Int} {r e : Int} (h : IsLen m p (r, e)) : (r, e) = resI (lenO m p) := by
  unfold lenO
  have he : (r, e) = (0, 2) ∨ e = 0 := by
    unfold IsLen at h
    split at h
    · exact .inl h
    · obtain ⟨s, _, h2⟩ := h
      split at h2
      · exact .inl h2
      · exact .inr (Prod.mk.inj h2).2
  rcases he with he | rfl
  · rw [he] at h ⊢
    rw [if_pos h]
    rfl
  · rw [if_neg fun h2 => by cases isLen_eq h h2]
    have hx : ∃ n, IsLen m p (n, 0) := ⟨r, h⟩
    rw [dif_pos hx]
    exact isLen_eq h (Classical.choose_spec hx)
def scaledP (g : GT) (n : Int) : Option Int := if inW (near6 (n * tscale g)) = true then some (near6 (n * tscale g)) else none
def widthP (g : GT) (f : Font) (code : Int) : Option Int := mulO (tsize g) (10 * widthF f code)
def stepL (g : GT) (f : Font) (code w : Int) : List Int := [w, tchar g] ++ (if code = 32 ∧ f.wide = false then [tword g] else [])
def stepP (g : GT) (f : Font) (code w : Int) : Option Int := (sumO (stepL g f code w)).bind fun n => scaledP g n
/-- A glyph, and the text matrix behind it. -/
noncomputable def signP (g : GT) (f : Font) (m : Mx) (code : Int) : Option (GlT × Mx) :=
  (mulP m (ctm g)).bind fun all => (widthP g f code).bind fun w => (scaledP g w).bind fun en => (applyP all (0, trise g)).bind fun a => (applyP all (en, trise g)).bind fun b =>
    (lenO all (0, tsize g)).bind fun hi => (stepP g f code w).bind fun st => (mulP (moveM st 0) m).bind fun m' => some ((code, ⟨(sayF f code).toArray⟩, a.1, a.2, b.1, b.2, hi, tfont g, tmode g), m')
noncomputable def showP (g : GT) (f : Font) : List Int → Mx → Option (List GlT × Mx)
  | [], m => some ([], m)
  | c :: r, m => (signP g f m c).bind fun x => (showP g f r x.2).bind fun y => some (x.1 :: y.1, y.2)
def noM : Mx := (0, 0, 0, 0, 0, 0)
/-- What is wrong with a string's showing, before the first glyph. -/
def askE (g : GT) (m : Mx) (f : Font) (s : ByteArray) : Int :=
  if useG g = false ∨ Mat.okM m = false then 2 else if chkF f ≠ 0 then chkF f else if (codesF f.wide s).2 ≠ 0 then (codesF f.wide s).2 else if 16384 < (codesF f.wide s).1.length then 6 else 0
noncomputable def stringF (g : GT) (m : Mx) (f : Font) (s : ByteArray) : List GlT × Mx × Int :=
  if askE g m f s ≠ 0 then ([], noM, askE g m f s) else match showP g f (codesF f.wide s).1 m with
  | some x => (x.1, x.2, 0)
  | none => ([], noM, 2)
def stepF (g : GT) (f : Font) (code : Int) : Int × Int :=
  if useG g = false then (0, 2) else if chkF f ≠ 0 then (0, chkF f) else resI ((widthP g f code).bind fun w => stepP g f code w)
/-! ### Numbers -/
theorem td6 (n : Int) : 1000000 * Int.tdiv n 1000000 + Int.tmod n 1000000 = n ∧ -1000000 < Int.tmod n 1000000 ∧ Int.tmod n 1000000 < 1000000 ∧ (0 ≤ n → 0 ≤ Int.tmod n 1000000) ∧ (n ≤ 0 → Int.tmod n 1000000 ≤ 0) := by
  rcases Int.le_total 0 n with h | h
  · rw [tdiv_id h, tmod_id h]; omega
  · obtain ⟨m, rfl⟩ : ∃ m, n = -m := ⟨-n, by omega⟩
    rw [Int.neg_tdiv, Int.neg_tmod, tdiv_id (by omega), tmod_id (by omega)]; omega
theorem near6_eq {n : Int} (hn : -5000000000000000000 ≤ n ∧ n ≤ 5000000000000000000) : (if Int.tmod n 1000000 < 0 then (if Int.tmod n 1000000 + 1000000 ≥ 1000000 - (Int.tmod n 1000000 + 1000000) then Int.tdiv n 1000000 - 1 + 1 else Int.tdiv n 1000000 - 1) else if Int.tmod n 1000000 ≥ 1000000 - Int.tmod n 1000000 then Int.tdiv n 1000000 + 1 else Int.tdiv n 1000000) = near6 n := by
  unfold near6
  have := td6 n
  split
  · split <;> omega
  · split <;> omega
theorem c_near6 {n : Int} (hn : -5000000000000000000 ≤ n ∧ n ≤ 5000000000000000000) (w : World) : C57 n 1000000 w fun r w1 => r = near6 n ∧ Ext (fun _ => False) w w1 := by
  refine T57 _ _ _ _ ?_
  unfold S57
  have he : Ext (fun _ => False) w w.drew := (Ext.refl _ w).drew
  have e := near6_eq hn
  have := td6 n
  refine ⟨by omega, by omega, Br.dec (fun h => ?_) fun h => ?_⟩
  · rw [if_pos h] at e
    rw [i64_id (n := Int.tmod n 1000000 + 1000000) (by omega), i64_id (n := 1000000 - (Int.tmod n 1000000 + 1000000)) (by omega), i64_id (n := Int.tdiv n 1000000) (by omega), i64_id (n := Int.tdiv n 1000000 - 1) (by omega), i64_id (n := Int.tdiv n 1000000 - 1 + 1) (by omega)]
    refine Lt.of (Br.dec (fun h2 => ⟨?_, he⟩) fun h2 => ⟨?_, he⟩)
    · rw [if_pos h2] at e; exact e
    · rw [if_neg h2] at e; exact e
  · rw [if_neg h] at e
    rw [i64_id (n := 1000000 - Int.tmod n 1000000) (by omega), i64_id (n := Int.tdiv n 1000000) (by omega), i64_id (n := Int.tdiv n 1000000 + 1) (by omega)]
    refine Br.dec (fun h2 => ⟨?_, he⟩) fun h2 => ⟨?_, he⟩
    · rw [if_pos h2] at e; exact e
    · rw [if_neg h2] at e; exact e
theorem c_Near {n : Int} (hn : -4611686018427387904 ≤ n ∧ n ≤ 4611686018427387904) (w : World) : C63 n 1000000 w fun r e w1 => r = near6 n ∧ e = 0 ∧ Ext (fun _ => False) w w1 := by
  refine T63 _ _ _ _ ?_
  unfold S63
  refine Br.f (by decide) (Br.dec (fun h => absurd h (by omega)) fun _ => Br.dec (fun h => absurd h (by omega)) fun _ => (c_near6 (by omega) w).mono ?_)
  rintro r w1 ⟨rfl, he⟩
  exact ⟨rfl, rfl, he⟩
theorem row2 {w : World} {b : Nat} {t : TypeId} {x0 x1 : Int} (h : Blk w b #[.int .i64 x0, .int .i64 x1] t) : IRow w ⟨some ⟨b, 0, none⟩, 2, 2⟩ [x0, x1] :=
  IRow.of h rfl fun i hi => by
    rcases i with _ | _ | i
    · rfl
    · rfl
    · simp only [List.length_cons, List.length_nil] at hi
      omega
theorem c_mul2 (a b : Int) (w : World) : C45 a b w fun r e w1 => (r, e) = resI (mulO a b) ∧ Ext (fun _ => False) w w1 := by
  refine T45 _ _ _ _ ?_
  unfold S45
  refine (Hx.start w (fun _ => False)).nw fun w2 H => ?_
  have hs := H.size
  refine H.nw fun w3 H => ?_
  have caught : ∀ (cs1 cs2 : Int) (w4 : World), Hx w (fun _ => False) w4 [(w.heap.size, #[.int .i64 cs1], 2), (w2.heap.size, #[.int .i64 cs2], 38)] → (mulO a b = none) →
      S45P w w2 (fun r e w1 => (r, e) = resI (mulO a b) ∧ Ext (fun _ => False) w w1) (refused 2) w4 := fun cs1 cs2 w4 H hd => by
    unfold S45P
    refine T54_T121 _ _ 2 _ _ ?_
    unfold S54_T121
    refine Nn.of (H.st 0 rfl (by simp) (.inr (Nat.le_refl _)) fun w5 H => Nn.of (H.st 1 rfl (by simp) (.inr hs) fun w6 H => H.ld 0 rfl rfl (H.ld 1 rfl rfl ⟨by rw [hd]; rfl, H.ext⟩)))
  have done : ∀ (r e : Int) (w4 : World), Hx w (fun _ => False) w4 [(w.heap.size, #[.int .i64 r], 2), (w2.heap.size, #[.int .i64 e], 38)] → resI (mulO a b) = (r, e) →
      CD54 (some (⟨w.heap.size, 0, none⟩ : Addr)) (some (⟨w2.heap.size, 0, none⟩ : Addr)) none w4 fun vw15 =>
        Ld vw15 (⟨w.heap.size, 0, none⟩ : Addr) (Value.int .i64) fun (x16 : Int) =>
        Ld vw15 (⟨w2.heap.size, 0, none⟩ : Addr) (Value.int .i64) fun (x17 : Int) =>
        (x16, x17) = resI (mulO a b) ∧ Ext (fun _ => False) w vw15 := fun r e w4 H hd => by
    refine T54_nil _ _ _ _ ?_
    unfold S54_nil
    exact H.ld 0 rfl rfl (H.ld 1 rfl rfl ⟨hd.symm, H.ext⟩)
  refine H.nw fun w4 H => ?_
  have HB := H.get 2 rfl
  have H := H.left (L := [(w.heap.size, #[.int .i64 0], 2), (w2.heap.size, #[.int .i64 0], 38)])
  refine (c_bounded (l := [a, b]) (row2 HB) (by simp)).mono (fun w5 h5 => ?_) fun v w5 h5 => ?_
  case refine_2 =>
    obtain ⟨rfl, rfl, ha⟩ := h5
    refine caught _ _ _ H (if_neg fun hc => ha fun i hi => ?_)
    rcases i with _ | _ | i
    · exact hc.1
    · exact hc.2.1
    · simp only [List.length_cons, List.length_nil] at hi
      omega
  obtain ⟨rfl, ha⟩ := h5
  have h1 : inW a = true := ha 0 (by simp)
  have h2 : inW b = true := ha 1 (by simp)
  have hb := mul_bd (inW_spec.1 h1) (inW_spec.1 h2)
  rw [i64_id (n := a * b) (by omega)]
  refine (c_near (by omega) _).mono ?_
  rintro r w6 ⟨rfl, e6⟩
  have H := H.keep e6
  refine (c_answer _ _).mono (fun r w7 h7 => ?_) fun v w7 h7 => ?_
  · obtain ⟨rfl, hw, he⟩ := h7
    have H := H.keep he
    exact H.st 0 rfl (by simp) (.inr (Nat.le_refl _)) fun w8 H => H.st 1 rfl (by simp) (.inr hs) fun w9 H => done _ 0 _ H (by unfold mulO; rw [if_pos ⟨h1, h2, hw⟩]; rfl)
  · obtain ⟨rfl, hw, he⟩ := h7
    exact caught _ _ _ (H.keep he) (if_neg fun hc => by rw [hc.2.2] at hw; cases hw)
end Sw
end Go.Proofs.YtcblpehnkogfdaaDoor

/- Shown strings: what the law asks, plain. Conditions: none. -/
import Derived.Test.YtcblpehnkogfdaaDoorSwE
namespace Go.Proofs.YtcblpehnkogfdaaDoor
namespace Sw
open Sh Mat Fix Fo
set_option linter.unusedVariables false
set_option linter.unusedSimpArgs false
set_option maxRecDepth 100000
set_option maxHeartbeats 4000000
def plainF : Font := ⟨⟨#[120]⟩, false, 65, [500], 0, [], []⟩
def g0 : GT := (10000, 0, 0, 10000, 0, 0, 10000, 0, 0, 100000, ⟨none, 0, 0⟩, 0, 0, 0, 0, 0, 0, 0, 0, 0, 0, 0, 0, 0, 1000000, 0, 100000, 0, ⟨#[]⟩, 0)
theorem g0_ctm : ctm g0 = one := rfl
theorem first_use : useG g0 = true := by decide
theorem first_chk : chkF plainF = 0 := by decide
theorem first_codes : codesF false ⟨#[65]⟩ = ([65], 0) := by decide
theorem u65 : usualB.getD 65 [] = [65] := by kernel_rfl
theorem i65 : usualB.findIdx? (fun m => decide (m = [65])) = some 65 := by kernel_rfl
theorem first_say : sayF plainF 65 = [65] := by
  unfold sayF signF
  show (if _ then _ else _) = _
  rw [if_neg (by rw [if_pos (show plainF.names = [] from rfl), usualB_len]; decide)]
  have h : (if plainF.names = [] then usualB else plainF.names.map bl).getD (65 : Int).toNat [] = [65] := by
    rw [if_pos (show plainF.names = [] from rfl)]
    exact u65
  rw [h]
  rw [if_neg (by decide), i65]
  rfl
theorem first_len : lenO (moveM 5 6) (0, 100000) = some 100000 := by
  have h : IsLen (moveM 5 6) (0, 100000) (100000, 0) := by
    unfold IsLen
    rw [show applyP (flat (moveM 5 6)) (0, 100000) = some (0, 100000) by decide]
    exact ⟨100000, ⟨by decide, by decide, by decide⟩, by decide⟩
  exact resI_yes (lenO_eq h)
theorem first_sign : signP g0 plainF (moveM 5 6) 65 = some ((65, ⟨#[65]⟩, 5, 6, 50005, 6, 100000, ⟨#[]⟩, 0), moveM 50005 6) := by
  unfold signP
  rw [show mulP (moveM 5 6) (ctm g0) = some (moveM 5 6) by decide, Option.bind_some, show widthP g0 plainF 65 = some 50000 by decide, Option.bind_some, show scaledP g0 50000 = some 50000 by decide, Option.bind_some,
    show applyP (moveM 5 6) (0, trise g0) = some (5, 6) by decide, Option.bind_some, show applyP (moveM 5 6) (50000, trise g0) = some (50005, 6) by decide, Option.bind_some, show lenO (moveM 5 6) (0, tsize g0) = some 100000 from first_len, Option.bind_some,
    show stepP g0 plainF 65 50000 = some 50000 by decide, Option.bind_some, show mulP (moveM 50000 0) (moveM 5 6) = some (moveM 50005 6) by decide, Option.bind_some, first_say]
  rfl
theorem first_string : stringF g0 (moveM 5 6) plainF ⟨#[65]⟩ = ([(65, ⟨#[65]⟩, 5, 6, 50005, 6, 100000, ⟨#[]⟩, 0)], moveM 50005 6, 0) := by
  unfold stringF
  rw [if_neg (by unfold askE; rw [if_neg (by decide), if_neg (by rw [first_chk]; decide), if_neg (by decide), if_neg (by decide)]; decide)]
  rw [show (codesF plainF.wide ⟨#[65]⟩).1 = [65] by decide]
  unfold showP
  rw [first_sign]
  rfl
theorem sign_facts {g : GT} {f : Font} {m m' : Mx} {c : Int} {gl : GlT} (h : signP g f m c = some (gl, m')) : ∃ (all : Mx) (a : Int × Int) (st : Int), mulP m (ctm g) = some all ∧ applyP all (0, trise g) = some a ∧
    ((widthP g f c).bind fun w => stepP g f c w) = some st ∧ mulP (moveM st 0) m = some m' ∧ gl.1 = c ∧ gl.2.1 = ⟨(sayF f c).toArray⟩ ∧ gl.2.2.1 = a.1 ∧ gl.2.2.2.1 = a.2 ∧ gl.2.2.2.2.2.2.2.1 = tfont g := by
  unfold signP at h
  obtain ⟨all, h1, h⟩ := Option.bind_eq_some_iff.1 h
  obtain ⟨wd, h2, h⟩ := Option.bind_eq_some_iff.1 h
  obtain ⟨en, h3, h⟩ := Option.bind_eq_some_iff.1 h
  obtain ⟨a, h4, h⟩ := Option.bind_eq_some_iff.1 h
  obtain ⟨b, h5, h⟩ := Option.bind_eq_some_iff.1 h
  obtain ⟨hi, h6, h⟩ := Option.bind_eq_some_iff.1 h
  obtain ⟨st, h7, h⟩ := Option.bind_eq_some_iff.1 h
  obtain ⟨m2, h8, h⟩ := Option.bind_eq_some_iff.1 h
  cases h
  exact ⟨all, a, st, h1, h4, by rw [h2]; exact h7, h8, rfl, rfl, rfl, rfl, rfl⟩
theorem mulP_ok {a b c : Mx} (h : mulP a b = some c) : Mat.okM c = true := by
  unfold mulP at h
  split at h
  · obtain ⟨x1, h1, h⟩ := Option.bind_eq_some_iff.1 h
    obtain ⟨x2, h2, h⟩ := Option.bind_eq_some_iff.1 h
    obtain ⟨x3, h3, h⟩ := Option.bind_eq_some_iff.1 h
    obtain ⟨x4, h4, h⟩ := Option.bind_eq_some_iff.1 h
    obtain ⟨x5, h5, h⟩ := Option.bind_eq_some_iff.1 h
    obtain ⟨x6, h6, h⟩ := Option.bind_eq_some_iff.1 h
    cases h
    unfold Mat.okM comps
    simp [dotP_in h1, dotP_in h2, dotP_in h3, dotP_in h4, dotP_in h5, dotP_in h6]
  · cases h
theorem showP_len {g : GT} {f : Font} : ∀ (cs : List Int) {m m' : Mx} {L : List GlT}, showP g f cs m = some (L, m') → L.length = cs.length
  | [], m, m', L, h => by cases h; rfl
  | c :: cs, m, m', L, h => by
    unfold showP at h
    obtain ⟨x, h1, h⟩ := Option.bind_eq_some_iff.1 h
    obtain ⟨y, h2, h⟩ := Option.bind_eq_some_iff.1 h
    cases h
    rw [List.length_cons, List.length_cons, showP_len cs (m' := y.2) (L := y.1) h2]
theorem showP_app {g : GT} {f : Font} : ∀ (c1 c2 : List Int) {m m' : Mx} {L : List GlT}, Mat.okM m = true → showP g f (c1 ++ c2) m = some (L, m') → ∃ (La Lb : List GlT) (m1 : Mx), showP g f c1 m = some (La, m1) ∧ showP g f c2 m1 = some (Lb, m') ∧ L = La ++ Lb ∧ Mat.okM m1 = true
  | [], c2, m, m', L, ho, h => ⟨[], L, m, rfl, h, rfl, ho⟩
  | c :: c1, c2, m, m', L, ho, h => by
    rw [List.cons_append] at h
    unfold showP at h
    obtain ⟨x, h1, h⟩ := Option.bind_eq_some_iff.1 h
    obtain ⟨y, h2, h⟩ := Option.bind_eq_some_iff.1 h
    cases h
    obtain ⟨all, a, st, _, _, _, hm, _⟩ := sign_facts (gl := x.1) (m' := x.2) h1
    obtain ⟨La, Lb, m1, g1, g2, g3, g4⟩ := showP_app c1 c2 (m' := y.2) (L := y.1) (mulP_ok hm) h2
    refine ⟨x.1 :: La, Lb, m1, ?_, g2, by rw [g3]; rfl, g4⟩
    unfold showP
    rw [h1]
    show Option.bind (showP g f c1 x.2) _ = _
    rw [g1]
    rfl
theorem pairs_app : ∀ (a b : By), a.length % 2 = 0 → pairs (a ++ b) = pairs a ++ pairs b
  | [], b, _ => rfl
  | [x], b, h => by simp at h
  | x :: y :: r, b, h => by
    show _ :: pairs (r ++ b) = _ :: (pairs r ++ pairs b)
    rw [pairs_app r b (by simp only [List.length_cons] at h; omega)]
theorem codes_cut {wide : Bool} {s : ByteArray} {k : Nat} (hk : k ≤ s.size) (hw : wide = true → k % 2 = 0) (h : (codesF wide s).2 = 0) :
    (codesF wide (s.extract 0 k)).2 = 0 ∧ (codesF wide (s.extract k s.size)).2 = 0 ∧ (codesF wide s).1 = (codesF wide (s.extract 0 k)).1 ++ (codesF wide (s.extract k s.size)).1 := by
  have e1 : bl (s.extract 0 k) = (bl s).take k := by
    unfold bl
    rw [extract_list]
    rfl
  have e2 : bl (s.extract k s.size) = (bl s).drop k := extract_drop s k
  have hl : (bl s).length = s.size := Array.length_toList
  unfold codesF at h ⊢
  cases wide with
  | false =>
    rw [if_pos rfl, if_pos rfl, if_pos rfl, e1, e2]
    refine ⟨rfl, rfl, ?_⟩
    simp only
    rw [← List.map_append, List.take_append_drop]
  | true =>
    have hk2 := hw rfl
    have z1 : (s.extract 0 k).size = k := by rw [ByteArray.size_extract]; omega
    have z2 : (s.extract k s.size).size = s.size - k := by rw [ByteArray.size_extract]; omega
    rw [if_neg (by decide)] at h ⊢
    by_cases hs : s.size % 2 = 0
    · rw [if_neg (by omega), if_neg (by decide), if_neg (by omega), if_neg (by decide), if_neg (by omega), e1, e2]
      refine ⟨rfl, rfl, ?_⟩
      simp only
      rw [← pairs_app _ _ (by rw [List.length_take]; omega), List.take_append_drop]
    · rw [if_pos (by omega)] at h
      cases h
theorem ask_parts {g : GT} {m : Mx} {f : Font} {s : ByteArray} (h : askE g m f s = 0) : useG g = true ∧ Mat.okM m = true ∧ chkF f = 0 ∧ (codesF f.wide s).2 = 0 ∧ (codesF f.wide s).1.length ≤ 16384 := by
  unfold askE at h
  split at h
  · cases h
  · rename_i h1
    split at h
    · rename_i h2
      exact absurd h h2
    · rename_i h2
      split at h
      · rename_i h3
        exact absurd h h3
      · rename_i h3
        split at h
        · cases h
        · rename_i h4
          refine ⟨?_, ?_, Decidable.of_not_not h2, Decidable.of_not_not h3, by omega⟩
          · cases hg : useG g with
            | true => rfl
            | false => exact absurd (.inl hg) h1
          · cases hg : Mat.okM m with
            | true => rfl
            | false => exact absurd (.inr hg) h1
theorem ask_of {g : GT} {m : Mx} {f : Font} {s : ByteArray} (h1 : useG g = true) (h2 : Mat.okM m = true) (h3 : chkF f = 0) (h4 : (codesF f.wide s).2 = 0) (h5 : (codesF f.wide s).1.length ≤ 16384) : askE g m f s = 0 := by
  unfold askE
  rw [if_neg (by simp [h1, h2]), if_neg (by simp [h3]), if_neg (by simp [h4]), if_neg (by omega)]
theorem string_of {g : GT} {m m' : Mx} {f : Font} {s : ByteArray} {L : List GlT} (h : askE g m f s = 0) (hs : showP g f (codesF f.wide s).1 m = some (L, m')) : stringF g m f s = (L, m', 0) := by
  unfold stringF
  rw [if_neg (by rw [h]; simp), hs]
theorem string_no {g : GT} {m m' : Mx} {f : Font} {s : ByteArray} {L : List GlT} {e : Int} (h : stringF g m f s = (L, m', e)) (he : e ≠ 0) : L = [] := by
  unfold stringF at h
  split at h
  · cases h; rfl
  · split at h
    · cases h; exact absurd rfl he
    · cases h; rfl
theorem string_yes {g : GT} {m m' : Mx} {f : Font} {s : ByteArray} {L : List GlT} (h : stringF g m f s = (L, m', 0)) : askE g m f s = 0 ∧ showP g f (codesF f.wide s).1 m = some (L, m') := by
  unfold stringF at h
  split at h
  · rename_i h1
    exact absurd (Prod.mk.inj (Prod.mk.inj h).2).2 h1
  · rename_i h1
    refine ⟨Decidable.of_not_not h1, ?_⟩
    split at h
    · rename_i x hx
      cases h
      exact hx
    · cases h
/-- A string shown in two parts. -/
theorem string_cut {g : GT} {m m' : Mx} {f : Font} {s : ByteArray} {L : List GlT} {k : Nat} (h : stringF g m f s = (L, m', 0)) (hk : k ≤ s.size) (hw : f.wide = true → k % 2 = 0) :
    ∃ La Lb m1, stringF g m f (s.extract 0 k) = (La, m1, 0) ∧ stringF g m1 f (s.extract k s.size) = (Lb, m', 0) ∧ L = La ++ Lb := by
  obtain ⟨ha, hs⟩ := string_yes h
  obtain ⟨p1, p2, p3, p4, p5⟩ := ask_parts ha
  obtain ⟨c1, c2, c3⟩ := codes_cut hk hw p4
  rw [c3] at hs p5
  rw [List.length_append] at p5
  obtain ⟨La, Lb, m1, g1, g2, g3, g4⟩ := showP_app _ _ p2 hs
  exact ⟨La, Lb, m1, string_of (ask_of p1 p2 p3 c1 (by omega)) g1, string_of (ask_of p1 g4 p3 c2 (by omega)) g2, g3⟩
end Sw
end Go.Proofs.YtcblpehnkogfdaaDoor

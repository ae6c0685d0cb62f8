/- Numbers as text, and what a lexer sees of it: plain. No condition. -/
import Derived.Lib.SlTrimSet
import Derived.Lib.IndexLaws
import Derived.Lib.Bytes2
import Derived.Test.YtpkadliieplblaaDoorProg
namespace Go.Proofs.YtpkadliieplblaaDoor
namespace Tk
open Go.Lib
set_option linter.unusedVariables false
set_option linter.unusedSimpArgs false
set_option maxRecDepth 4000
abbrev By : Type := List UInt8
/-! ### Digits -/
def isDig (c : UInt8) : Prop := 48 ≤ c.toNat ∧ c.toNat ≤ 57
def allDig (l : By) : Prop := ∀ c ∈ l, isDig c
def dval : By → Nat
  | [] => 0
  | c :: l => (c.toNat - 48) * 10 ^ l.length + dval l
theorem dval_app : ∀ (l m : By), dval (l ++ m) = dval l * 10 ^ m.length + dval m
  | [], m => by simp [dval]
  | c :: l, m => by
    rw [List.cons_append]
    show (c.toNat - 48) * 10 ^ (l ++ m).length + dval (l ++ m) = ((c.toNat - 48) * 10 ^ l.length + dval l) * 10 ^ m.length + dval m
    rw [dval_app l m, List.length_append, Nat.pow_add, Nat.add_mul, Nat.mul_assoc]
    omega
theorem dval_lt : ∀ {l : By}, allDig l → dval l < 10 ^ l.length
  | [], _ => by simp [dval]
  | c :: l, h => by
    have h1 := dval_lt fun x hx => h x (List.mem_cons_of_mem _ hx)
    have h2 := h c (List.mem_cons_self ..)
    unfold dval
    rw [List.length_cons, Nat.pow_succ]
    have h3 : (c.toNat - 48) * 10 ^ l.length ≤ 9 * 10 ^ l.length := Nat.mul_le_mul_right _ (by have := h2.2; omega)
    omega
theorem dval_inj : ∀ {l m : By}, allDig l → allDig m → l.length = m.length → dval l = dval m → l = m
  | [], [], _, _, _, _ => rfl
  | [], _ :: _, _, _, h, _ => by simp at h
  | _ :: _, [], _, _, h, _ => by simp at h
  | c :: l, d :: m, h1, h2, hl, hv => by
    have k1 := dval_lt fun x hx => h1 x (List.mem_cons_of_mem _ hx)
    have k2 := dval_lt fun x hx => h2 x (List.mem_cons_of_mem _ hx)
    have hl : l.length = m.length := by simpa using hl
    have c1 := h1 c (List.mem_cons_self ..)
    have c2 := h2 d (List.mem_cons_self ..)
    unfold dval at hv
    rw [← hl] at hv k2
    have e : c.toNat - 48 = d.toNat - 48 := by
      generalize 10 ^ l.length = p at *
      rcases Nat.lt_trichotomy (c.toNat - 48) (d.toNat - 48) with h | h | h
      · have : (c.toNat - 48 + 1) * p ≤ (d.toNat - 48) * p := Nat.mul_le_mul_right _ h
        rw [Nat.add_mul] at this
        omega
      · exact h
      · have : (d.toNat - 48 + 1) * p ≤ (c.toNat - 48) * p := Nat.mul_le_mul_right _ h
        rw [Nat.add_mul] at this
        omega
    rw [e] at hv
    have hcd : c = d := UInt8.toNat_inj.1 (by have := c1.1; have := c2.1; omega)
    rw [hcd, dval_inj (fun x hx => h1 x (List.mem_cons_of_mem _ hx)) (fun x hx => h2 x (List.mem_cons_of_mem _ hx)) hl (by omega)]
/-! ### Trimmed strings -/
theorem mem_drop {p : UInt8 → Bool} {c : UInt8} (hp : p c = false) : ∀ {l : By}, c ∈ l → c ∈ l.dropWhile p
  | x :: l, h => by
    rw [List.dropWhile_cons]
    split
    · rename_i hx
      rcases List.mem_cons.1 h with rfl | h
      · rw [hp] at hx
        cases hx
      · exact mem_drop hp h
    · exact h
theorem trimR_mem {l cs : By} {c : UInt8} (h : c ∈ l) (hc : cs.contains c = false) : c ∈ trimRightS l cs := List.mem_reverse.2 (mem_drop hc (List.mem_reverse.2 h))
theorem trim_mem {l cs : By} {c : UInt8} (h : c ∈ l) (hc : cs.contains c = false) : trimS l cs ≠ [] := fun e => by
  have : c ∈ trimS l cs := mem_drop hc (trimR_mem h hc)
  rw [e] at this
  cases this
theorem drop_all {p : UInt8 → Bool} : ∀ {l : By}, (∀ c ∈ l, p c = true) → l.dropWhile p = []
  | [], _ => rfl
  | c :: l, h => by
    rw [List.dropWhile_cons, if_pos (h c (List.mem_cons_self ..))]
    exact drop_all fun x hx => h x (List.mem_cons_of_mem _ hx)
theorem trimR_all {l cs : By} (h : ∀ c ∈ l, cs.contains c = true) : trimRightS l cs = [] := by
  unfold trimRightS
  rw [drop_all fun c hc => h c (List.mem_reverse.1 hc)]
  rfl
theorem trim_all {l cs : By} (h : ∀ c ∈ l, cs.contains c = true) : trimS l cs = [] := by
  unfold trimS
  rw [trimR_all h]
  rfl
def tens : By := [48, 49, 50, 51, 52, 53, 54, 55, 56, 57]
theorem in_tens {c : UInt8} (h : isDig c) : tens.contains c = true := by
  have h1 := h.1
  have h2 := h.2
  have : c.toNat = 48 ∨ c.toNat = 49 ∨ c.toNat = 50 ∨ c.toNat = 51 ∨ c.toNat = 52 ∨ c.toNat = 53 ∨ c.toNat = 54 ∨ c.toNat = 55 ∨ c.toNat = 56 ∨ c.toNat = 57 := by omega
  have k : ∀ (d : UInt8), c.toNat = d.toNat → c = d := fun d hd => UInt8.toNat_inj.1 hd
  rcases this with h | h | h | h | h | h | h | h | h | h
  · rw [k 48 h]; rfl
  · rw [k 49 h]; rfl
  · rw [k 50 h]; rfl
  · rw [k 51 h]; rfl
  · rw [k 52 h]; rfl
  · rw [k 53 h]; rfl
  · rw [k 54 h]; rfl
  · rw [k 55 h]; rfl
  · rw [k 56 h]; rfl
  · rw [k 57 h]; rfl
theorem trim_dig {l : By} (h : allDig l) : trimS l tens = [] := trim_all fun c hc => in_tens (h c hc)
/-! ### Fractions -/
/-- The digits behind the point: without zeros at the end, but at least one. -/
def frF (P : By) : By := if trimRightS P [48] = [] then [48] else trimRightS P [48]
def zer5 : By := [48, 48, 48, 48, 48]
theorem fr_fill {P : By} (h : allDig P) (hl : P.length = 4) : (frF P ++ zer5).take 4 = P ∧ trimRightS ((frF P ++ zer5).drop 4) [48] = [] ∧ allDig (frF P) ∧ 1 ≤ (frF P).length ∧ (frF P).length ≤ 4 := by
  obtain ⟨a, b, c, d, rfl⟩ : ∃ a b c d, P = [a, b, c, d] := by
    match P, hl with
    | [a, b, c, d], _ => exact ⟨a, b, c, d, rfl⟩
  have ha := h a (by simp)
  have hb := h b (by simp)
  have hc := h c (by simp)
  have hd := h d (by simp)
  have h0 : isDig 48 := by unfold isDig; decide
  by_cases e1 : d = 48
  · subst e1
    by_cases e2 : c = 48
    · subst e2
      by_cases e3 : b = 48
      · subst e3
        by_cases e4 : a = 48
        · subst e4
          have : frF [48, 48, 48, 48] = [48] := by decide
          rw [this]
          exact ⟨by decide, by decide, fun x hx => by rw [List.mem_singleton.1 hx]; exact h0, by decide, by decide⟩
        · have : frF [a, 48, 48, 48] = [a] := by simp [frF, trimRightS, List.dropWhile, e4]
          rw [this]
          exact ⟨rfl, rfl, fun x hx => by rw [List.mem_singleton.1 hx]; exact ha, by simp, by simp⟩
      · have : frF [a, b, 48, 48] = [a, b] := by simp [frF, trimRightS, List.dropWhile, e3]
        rw [this]
        refine ⟨rfl, rfl, fun x hx => ?_, by simp, by simp⟩
        simp only [List.mem_cons, List.not_mem_nil, or_false] at hx
        rcases hx with rfl | rfl <;> assumption
    · have : frF [a, b, c, 48] = [a, b, c] := by simp [frF, trimRightS, List.dropWhile, e2]
      rw [this]
      refine ⟨rfl, rfl, fun x hx => ?_, by simp, by simp⟩
      simp only [List.mem_cons, List.not_mem_nil, or_false] at hx
      rcases hx with rfl | rfl | rfl <;> assumption
  · have : frF [a, b, c, d] = [a, b, c, d] := by simp [frF, trimRightS, List.dropWhile, e1]
    rw [this]
    exact ⟨rfl, rfl, h, by simp, by simp⟩
/-- The text of a number in units. -/
structure TkText (n : Int) (t : By) (W P : By) : Prop where
  w : allDig W
  w1 : 1 ≤ W.length
  w6 : W.length ≤ 6
  wv : dval W = n.natAbs / 10000
  p : allDig P
  p4 : P.length = 4
  pv : dval P = n.natAbs % 10000
  t : t = (if n < 0 then [45] else []) ++ (W ++ 46 :: frF P)
/-! ### What the lexer sees -/
def whB (c : UInt8) : Bool := ([0, 9, 10, 12, 13, 32] : By).contains c
def dlB (c : UInt8) : Bool := ([40, 41, 60, 62, 91, 93, 123, 125, 47, 37] : By).contains c
def regB (c : UInt8) : Bool := !whB c && !dlB c
/-- How many bytes are skipped; b: within a remark. -/
def skipL : By → Bool → Nat
  | [], _ => 0
  | c :: r, true => 1 + skipL r (!(c == 13 || c == 10))
  | c :: r, false => if c = 37 then 1 + skipL r true else if whB c = true then 1 + skipL r false else 0
def runL : By → Nat
  | [] => 0
  | c :: r => if regB c = true then 1 + runL r else 0
theorem skipL_le : ∀ (l : By) (b : Bool), skipL l b ≤ l.length
  | [], _ => Nat.le_refl _
  | c :: r, true => by
    have := skipL_le r (!(c == 13 || c == 10))
    simp only [skipL, List.length_cons]
    omega
  | c :: r, false => by
    have h1 := skipL_le r true
    have h2 := skipL_le r false
    simp only [skipL, List.length_cons]
    split
    · omega
    · split <;> omega
theorem runL_le : ∀ l : By, runL l ≤ l.length
  | [] => Nat.le_refl _
  | c :: r => by
    have := runL_le r
    simp only [runL, List.length_cons]
    split <;> omega
/-- A run of regular bytes, and where it ends. -/
theorem runL_app : ∀ {t r : By}, (∀ c ∈ t, regB c = true) → (∀ c, r.head? = some c → regB c = false) → runL (t ++ r) = t.length
  | [], r, _, h => by
    cases r with
    | nil => rfl
    | cons c r =>
      have := h c rfl
      simp [runL, this]
  | c :: t, r, h1, h2 => by
    have h := h1 c (List.mem_cons_self ..)
    rw [List.cons_append]
    unfold runL
    rw [if_pos h, runL_app (fun x hx => h1 x (List.mem_cons_of_mem _ hx)) h2, List.length_cons]
    omega
theorem reg_skip {c : UInt8} {r : By} (h : regB c = true) : skipL (c :: r) false = 0 := by
  unfold regB whB dlB at h
  simp only [Bool.and_eq_true, Bool.not_eq_true'] at h
  unfold skipL
  rw [if_neg (fun e => by subst e; exact absurd h.2 (by decide)), if_neg (by unfold whB; rw [h.1]; decide)]
theorem reg_dig {c : UInt8} (h : isDig c) : regB c = true := by
  have := in_tens h
  unfold tens at this
  simp only [List.contains_cons, Bool.or_eq_true, beq_iff_eq, List.contains_nil, Bool.false_eq_true, or_false] at this
  rcases this with rfl | rfl | rfl | rfl | rfl | rfl | rfl | rfl | rfl | rfl <;> rfl
theorem TkText.reg {n : Int} {t W P : By} (h : TkText n t W P) : ∀ c ∈ t, regB c = true := by
  intro c hc
  rw [h.t] at hc
  have hf := (fr_fill h.p h.p4).2.2.1
  rcases List.mem_append.1 hc with hc | hc
  · split at hc
    · rw [List.mem_singleton.1 hc]; rfl
    · cases hc
  · rcases List.mem_append.1 hc with hc | hc
    · exact reg_dig (h.w c hc)
    · rcases List.mem_cons.1 hc with rfl | hc
      · rfl
      · exact reg_dig (hf c hc)
/-- A remark without the end of a line, then such an end. -/
theorem skip_remark : ∀ {r : By} {l : By}, (∀ c ∈ r, c ≠ 13 ∧ c ≠ 10) → skipL (r ++ 10 :: l) true = r.length + 1 + skipL l false
  | [], l, _ => by simp [skipL]
  | c :: r, l, h => by
    have h1 := h c (List.mem_cons_self ..)
    rw [List.cons_append]
    show 1 + skipL (r ++ 10 :: l) (!(c == 13 || c == 10)) = _
    have : (c == 13 || c == 10) = false := by simp [h1.1, h1.2]
    rw [this]
    show 1 + skipL (r ++ 10 :: l) true = _
    rw [skip_remark fun x hx => h x (List.mem_cons_of_mem _ hx), List.length_cons]
    omega
theorem skip_remark_end : ∀ {r : By}, (∀ c ∈ r, c ≠ 13 ∧ c ≠ 10) → skipL r true = r.length
  | [], _ => rfl
  | c :: r, h => by
    have h1 := h c (List.mem_cons_self ..)
    unfold skipL
    have : (c == 13 || c == 10) = false := by simp [h1.1, h1.2]
    rw [this]
    show 1 + skipL r true = _
    rw [skip_remark_end fun x hx => h x (List.mem_cons_of_mem _ hx), List.length_cons]
    omega
/-- A byte of a set, by its place. -/
theorem ix_contains (l : By) (c : UInt8) : decide (indexByte l c ≥ 0) = l.contains c := by
  by_cases h : indexByte l c = -1
  · rw [h]
    have : l.contains c = false := by
      rw [← Bool.not_eq_true, List.contains_iff_mem]
      intro hm
      obtain ⟨i, hi⟩ := List.mem_iff_getElem?.1 hm
      exact indexByte_none h i hi
    rw [this]
    rfl
  · have h1 := indexByte_ge l c
    obtain ⟨o, ho⟩ : ∃ o : Nat, indexByte l c = o := ⟨(indexByte l c).toNat, by omega⟩
    rw [ho, decide_eq_true (by omega)]
    have := (indexByte_some ho).1
    symm
    rw [List.contains_iff_mem]
    exact List.mem_of_getElem? this
end Tk
end Go.Proofs.YtpkadliieplblaaDoor

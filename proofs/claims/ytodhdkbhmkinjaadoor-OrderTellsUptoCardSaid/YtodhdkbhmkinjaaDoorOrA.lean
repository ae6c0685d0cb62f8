/- Reading order: signs, rows, words, lines; sorting by insertion. Plain; no condition. -/
import Derived.Test.YtodhdkbhmkinjaaDoorHp
namespace Go.Proofs.YtodhdkbhmkinjaaDoor
namespace Rdg
set_option linter.unusedVariables false
set_option linter.unusedSimpArgs false
/-! ### What is defined -/
abbrev R4 := Int × Int × Int × Int
def bd (n : Int) : Int := max (-1073741824) (min n 1073741824)
/-- A glyph, its numbers within the bounds, and its place in the list. -/
structure Sg where
  code : Int
  s : ByteArray
  fx : Int
  fy : Int
  tx : Int
  ty : Int
  hi : Int
  font : ByteArray
  mode : Int
  at' : Nat
def isWs (b : UInt8) : Bool := b == 9 || b == 10 || b == 13 || b == 32
def blankL (l : List UInt8) : Bool := l.all isWs
def Sg.blank (x : Sg) : Bool := blankL x.s.data.toList
def Sg.box (x : Sg) : R4 := (min x.fx x.tx, min x.fy x.ty, max x.fx x.tx, max x.fy x.ty + x.hi)
def both (a b : R4) : R4 := (min a.1 b.1, min a.2.1 b.2.1, max a.2.2.1 b.2.2.1, max a.2.2.2 b.2.2.2)
/-! ### Sorting by insertion -/
section
variable {α : Type} (lt : α → α → Bool)
/-- x goes behind all that are not behind it: the list is from the last to the first. -/
def insR (x : α) : List α → List α
  | [] => [x]
  | y :: r => if lt x y then y :: insR x r else x :: y :: r
/-- Sorted, from the last to the first. -/
def sortR (l : List α) : List α := l.foldl (fun acc x => insR lt x acc) []
def sortI (l : List α) : List α := (sortR lt l).reverse
theorem insR_perm (x : α) : ∀ l : List α, (insR lt x l).Perm (x :: l)
  | [] => List.Perm.refl _
  | y :: r => by
    unfold insR
    split
    · exact ((insR_perm x r).cons y).trans (List.Perm.swap x y r)
    · exact List.Perm.refl _
theorem sortR_perm' : ∀ (l acc : List α), (l.foldl (fun acc x => insR lt x acc) acc).Perm (l ++ acc)
  | [], acc => List.Perm.refl _
  | x :: l, acc => by
    rw [List.foldl_cons]
    refine (sortR_perm' l _).trans ?_
    refine ((insR_perm lt x acc).append_left l).trans ?_
    exact List.perm_middle
theorem sortI_perm (l : List α) : (sortI lt l).Perm l := by
  unfold sortI sortR
  have := sortR_perm' lt l []
  rw [List.append_nil] at this
  exact (List.reverse_perm _).trans this
theorem insR_sorted (ht : ∀ a b c, lt a b = true → lt b c = true → lt a c = true) (x : α) : ∀ l : List α, (∀ y ∈ l, lt x y = true ∨ lt y x = true) → l.Pairwise (fun a b => lt b a = true) → (insR lt x l).Pairwise (fun a b => lt b a = true)
  | [], _, _ => List.pairwise_singleton _ _
  | y :: r, hx, h => by
    obtain ⟨h1, h2⟩ := List.pairwise_cons.1 h
    unfold insR
    split
    · rename_i hl
      refine List.pairwise_cons.2 ⟨fun z hz => ?_, insR_sorted ht x r (fun z hz => hx z (List.mem_cons_of_mem _ hz)) h2⟩
      rcases List.mem_cons.1 ((insR_perm lt x r).mem_iff.1 hz) with rfl | hz
      · exact hl
      · exact h1 z hz
    · rename_i hl
      have hyx : lt y x = true := (hx y List.mem_cons_self).resolve_left hl
      refine List.pairwise_cons.2 ⟨fun z hz => ?_, h⟩
      rcases List.mem_cons.1 hz with rfl | hz
      · exact hyx
      · exact ht _ _ _ (h1 z hz) hyx
theorem sortR_sorted (ht : ∀ a b c, lt a b = true → lt b c = true → lt a c = true) : ∀ (l acc : List α), (acc ++ l).Pairwise (fun a b => lt a b = true ∨ lt b a = true) → acc.Pairwise (fun a b => lt b a = true) → (l.foldl (fun acc x => insR lt x acc) acc).Pairwise (fun a b => lt b a = true)
  | [], acc, _, h => h
  | x :: l, acc, ha, h => by
    rw [List.foldl_cons]
    have hp : (acc ++ x :: l).Perm (insR lt x acc ++ l) := by
      refine List.perm_middle.trans ?_
      have := (insR_perm lt x acc).symm.append_right l
      exact this
    have hx : ∀ y ∈ acc, lt x y = true ∨ lt y x = true := fun y hy => ((List.pairwise_append.1 ha).2.2 y hy x List.mem_cons_self).symm
    exact sortR_sorted ht l _ (ha.perm hp fun h => h.symm) (insR_sorted lt ht x acc hx h)
/-- Where the order parts all, there is one sorted list. -/
theorem sortI_eq (ht : ∀ a b c, lt a b = true → lt b c = true → lt a c = true) (hi : ∀ a, lt a a = false) {l m : List α} (hc : l.Pairwise (fun a b => lt a b = true ∨ lt b a = true)) (hp : m.Perm l) (hm : m.Pairwise (fun a b => lt a b = true)) : sortI lt l = m := by
  have hs : (sortI lt l).Pairwise (fun a b => lt a b = true) := by
    unfold sortI
    rw [List.pairwise_reverse]
    exact sortR_sorted lt ht l [] (by simpa using hc) List.Pairwise.nil
  refine ((sortI_perm lt l).trans hp.symm).eq_of_pairwise (le := fun a b => lt a b = true) (fun a b _ _ h k => ?_) hs hm
  have := ht a b a h k
  rw [hi] at this
  cases this
theorem sortI_sorted (ht : ∀ a b c, lt a b = true → lt b c = true → lt a c = true) {l : List α} (hc : l.Pairwise (fun a b => lt a b = true ∨ lt b a = true)) : (sortI lt l).Pairwise (fun a b => lt a b = true) := by
  unfold sortI
  rw [List.pairwise_reverse]
  exact sortR_sorted lt ht l [] (by simpa using hc) List.Pairwise.nil
/-- The next element, by insertion from the end. -/
theorem sortI_snoc (l : List α) (x : α) : sortI lt (l ++ [x]) = (insR lt x (sortI lt l).reverse).reverse := by
  unfold sortI sortR
  rw [List.foldl_append, List.reverse_reverse]
  rfl
/-- The order is looked at through keys alone. -/
theorem sortI_map {β : Type} (f : α → β) (lt' : β → β → Bool) (h : ∀ a b, lt' (f a) (f b) = lt a b) (l : List α) : sortI lt' (l.map f) = (sortI lt l).map f := by
  have hi : ∀ (x : α) (acc : List α), insR lt' (f x) (acc.map f) = (insR lt x acc).map f := by
    intro x acc
    induction acc with
    | nil => rfl
    | cons y r ih =>
      simp only [insR, List.map_cons, h]
      split
      · rw [List.map_cons, ih]
      · rfl
  have hf : ∀ (l acc : List α), (l.map f).foldl (fun acc x => insR lt' x acc) (acc.map f) = (l.foldl (fun acc x => insR lt x acc) acc).map f := by
    intro l
    induction l with
    | nil => intro acc; rfl
    | cons x l ih => intro acc; rw [List.map_cons, List.foldl_cons, hi, ih, List.foldl_cons]
  unfold sortI sortR
  have := hf l []
  rw [List.map_nil] at this
  rw [this, List.map_reverse]
end
def ltY (a b : Sg) : Bool := decide (b.fy < a.fy ∨ (a.fy = b.fy ∧ a.at' < b.at'))
def ltX (a b : Sg) : Bool := decide (a.fx < b.fx ∨ (a.fx = b.fx ∧ a.at' < b.at'))
theorem ltY_trans (a b c : Sg) (h : ltY a b = true) (k : ltY b c = true) : ltY a c = true := by
  unfold ltY at *
  simp only [decide_eq_true_eq] at *
  omega
theorem ltX_trans (a b c : Sg) (h : ltX a b = true) (k : ltX b c = true) : ltX a c = true := by
  unfold ltX at *
  simp only [decide_eq_true_eq] at *
  omega
theorem ltY_irr (a : Sg) : ltY a a = false := by unfold ltY; simp
theorem ltX_irr (a : Sg) : ltX a a = false := by unfold ltX; simp
/-- The places differ. -/
abbrev Apart (l : List Sg) : Prop := l.Pairwise fun a b => a.at' ≠ b.at'
theorem Apart.y {l : List Sg} (h : Apart l) : l.Pairwise (fun a b => ltY a b = true ∨ ltY b a = true) := h.imp fun {a b} hab => by
  unfold ltY
  simp only [decide_eq_true_eq]
  omega
theorem Apart.x {l : List Sg} (h : Apart l) : l.Pairwise (fun a b => ltX a b = true ∨ ltX b a = true) := h.imp fun {a b} hab => by
  unfold ltX
  simp only [decide_eq_true_eq]
  omega
theorem Apart.perm {l m : List Sg} (h : Apart l) (hp : l.Perm m) : Apart m := List.Pairwise.perm h hp fun h => h.symm
/-! ### Rows -/
def near (first x : Sg) : Bool := decide (first.fy - x.fy ≤ first.hi / 2)
def splitF : Nat → List Sg → List (List Sg)
  | 0, _ => []
  | _ + 1, [] => []
  | n + 1, x :: r => (x :: r.takeWhile (near x)) :: splitF n (r.dropWhile (near x))
def rowsF (l : List Sg) : List (List Sg) := (splitF (sortI ltY l).length (sortI ltY l)).map (sortI ltX)
/-! ### Words -/
structure Wd where
  s : ByteArray
  box : R4
def goesOn (a b : Sg) : Bool := !a.blank && decide (b.fx - a.tx ≤ a.hi / 4) && decide (-a.hi ≤ b.fx - a.tx)
def joinW (w : Wd) (x : Sg) : Wd := ⟨w.s ++ x.s, both w.box x.box⟩
/-- One sign more: the one before it, the words from the last to the first. -/
def stepW (prev : Option Sg) (ws : List Wd) (x : Sg) : List Wd :=
  if x.blank then ws else match prev, ws with
  | some a, w :: r => if goesOn a x then joinW w x :: r else ⟨x.s, x.box⟩ :: w :: r
  | _, ws => ⟨x.s, x.box⟩ :: ws
def wordsR : Option Sg → List Wd → List Sg → List Wd
  | _, ws, [] => ws
  | p, ws, x :: r => wordsR (some x) (stepW p ws x) r
def wordsF (row : List Sg) : List Wd := (wordsR none [] row).reverse
def boxW : List Wd → R4
  | [] => (0, 0, 0, 0)
  | w :: r => r.foldl (fun b v => both b v.box) (both w.box w.box)
structure Ln where
  words : List Wd
  box : R4
def lineF (row : List Sg) : Ln := ⟨wordsF row, boxW (wordsF row)⟩
def linesF (l : List Sg) : List Ln := ((rowsF l).map lineF).filter fun x => !x.words.isEmpty
end Rdg
end Go.Proofs.YtodhdkbhmkinjaaDoor

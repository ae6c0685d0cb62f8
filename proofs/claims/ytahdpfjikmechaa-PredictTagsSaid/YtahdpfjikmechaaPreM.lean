/- The predictors: what their functions answer, in plain terms, and that decoding undoes encoding. No condition. -/
import Derived.Test.YtahdpfjikmechaaHp
namespace Go.Proofs.Ytahdpfjikmechaa
namespace Pre
open Sh
set_option linter.unusedVariables false
set_option linter.unusedSimpArgs false

/-- A byte of a row, or 0 outside of it. -/
def pAt (l : List UInt8) (i : Int) : Nat := if i < 0 then 0 else (l.getD i.toNat 0).toNat
theorem pAt_lt (l : List UInt8) (i : Int) : pAt l i < 256 := by unfold pAt; split; omega; exact UInt8.toNat_lt _
def paeth (a b c : Nat) : Nat :=
  if ((a : Int) + b - c - a).natAbs ≤ ((a : Int) + b - c - b).natAbs ∧ ((a : Int) + b - c - a).natAbs ≤ ((a : Int) + b - c - c).natAbs then a
  else if ((a : Int) + b - c - b).natAbs ≤ ((a : Int) + b - c - c).natAbs then b else c
theorem paeth_lt {a b c : Nat} (ha : a < 256) (hb : b < 256) (hc : c < 256) : paeth a b c < 256 := by unfold paeth; split; exact ha; split; exact hb; exact hc
/-- What a tag's filter takes off byte i. -/
def off (tag : Int) (prev row : List UInt8) (i colors : Nat) : Nat :=
  if tag = 1 then pAt row ((i : Int) - colors)
  else if tag = 2 then pAt prev i
  else if tag = 3 then (pAt row ((i : Int) - colors) + pAt prev i) / 2
  else if tag = 4 then paeth (pAt row ((i : Int) - colors)) (pAt prev i) (pAt prev ((i : Int) - colors))
  else 0
theorem off_lt (tag : Int) (prev row : List UInt8) (i colors : Nat) : off tag prev row i colors < 256 := by
  have h1 := pAt_lt row ((i : Int) - colors)
  have h2 := pAt_lt prev i
  have h3 := pAt_lt prev ((i : Int) - colors)
  unfold off
  split
  · exact h1
  · split
    · exact h2
    · split
      · omega
      · split
        · exact paeth_lt h1 h2 h3
        · omega
/-- The filter looks at no byte of the row from i on. -/
theorem off_row {tag : Int} {prev row row' : List UInt8} {i colors : Nat} (hc : 1 ≤ colors) (h : ∀ j, j < i → row.getD j 0 = row'.getD j 0) : off tag prev row i colors = off tag prev row' i colors := by
  have : pAt row ((i : Int) - colors) = pAt row' ((i : Int) - colors) := by
    unfold pAt
    split
    · rfl
    · rw [h _ (by omega)]
  unfold off
  rw [this]
/-- The filtered row. -/
def less (tag : Int) (prev row : List UInt8) (colors : Nat) : List UInt8 := (List.range row.length).map fun i => row.getD i 0 - UInt8.ofNat (off tag prev row i colors)
theorem less_len (tag : Int) (prev row : List UInt8) (colors : Nat) : (less tag prev row colors).length = row.length := by simp [less]
theorem less_get {tag : Int} {prev row : List UInt8} {colors i : Nat} (h : i < row.length) : (less tag prev row colors).getD i 0 = row.getD i 0 - UInt8.ofNat (off tag prev row i colors) := by
  simp [less, List.getD_eq_getElem?_getD, h]
theorem less_take {tag : Int} {prev row : List UInt8} {colors i : Nat} (h : i < row.length) : (less tag prev row colors).take (i + 1) = (less tag prev row colors).take i ++ [row.getD i 0 - UInt8.ofNat (off tag prev row i colors)] := by
  rw [List.take_add_one, List.getElem?_eq_getElem (by rw [less_len]; exact h)]
  congr 1
  have := less_get (tag := tag) (prev := prev) (colors := colors) h
  rw [List.getD_eq_getElem?_getD, List.getElem?_eq_getElem (by rw [less_len]; exact h)] at this
  simpa using this
/-- The distance from zero of the bytes, as signed numbers. -/
def far (l : List UInt8) : Nat := (l.map fun b => min b.toNat (256 - b.toNat)).sum
theorem far_take (l : List UInt8) {i : Nat} (h : i < l.length) : far (l.take (i + 1)) = far (l.take i) + min (l.getD i 0).toNat (256 - (l.getD i 0).toNat) := by
  have e : l.take (i + 1) = l.take i ++ [l.getD i 0] := by
    rw [List.take_add_one, List.getElem?_eq_getElem h]
    simp [List.getD_eq_getElem?_getD, h]
  unfold far
  rw [e, List.map_append, List.sum_append]
  simp
theorem far_le : ∀ (l : List UInt8), far l ≤ 256 * l.length
  | [] => by simp [far]
  | b :: l => by
    have ih := far_le l
    have := b.toNat_lt
    simp only [far, List.map_cons, List.sum_cons, List.length_cons] at *
    omega
/-- The first k tags: which of them leaves the least, and how much. -/
def bestK (prev row : List UInt8) (colors : Nat) : Nat → Nat × Nat
  | 0 => (0, 0)
  | k + 1 => let n := far (less k prev row colors); if k = 0 ∨ n < (bestK prev row colors k).2 then (k, n) else bestK prev row colors k
def best (prev row : List UInt8) (colors : Nat) : Nat := (bestK prev row colors 5).1
/-- The first i bytes of the row that a filtered row stands for. -/
def dec (tag : Int) (prev raw : List UInt8) (colors : Nat) : Nat → List UInt8
  | 0 => []
  | i + 1 => dec tag prev raw colors i ++ [raw.getD i 0 + UInt8.ofNat (off tag prev (dec tag prev raw colors i) i colors)]
theorem dec_len (tag : Int) (prev raw : List UInt8) (colors : Nat) : ∀ i, (dec tag prev raw colors i).length = i
  | 0 => rfl
  | i + 1 => by simp [dec, dec_len tag prev raw colors i]
/-- Decoding a filtered row gives the row. -/
theorem dec_less {tag : Int} {prev row : List UInt8} {colors : Nat} (hc : 1 ≤ colors) : ∀ i, i ≤ row.length → dec tag prev (less tag prev row colors) colors i = row.take i
  | 0, _ => by simp [dec]
  | i + 1, h => by
    have ih := dec_less (tag := tag) (prev := prev) (row := row) hc i (by omega)
    have hg : row[i]? = some (row.getD i 0) := by rw [List.getElem?_eq_getElem (by omega)]; simp [List.getD_eq_getElem?_getD, show i < row.length by omega]
    rw [dec, ih, less_get (by omega), List.take_add_one, hg]
    congr 1
    rw [off_row (row := row.take i) (row' := row) hc fun j hj => by simp [List.getD_eq_getElem?_getD, hj]]
    simp
end Pre
end Go.Proofs.Ytahdpfjikmechaa

/- Fonts: their numbers, their names, the text of a code. Plain; no condition. -/
import Derived.Test.YtcblpehnkogfdaaGreatDoorUtA
import Derived.Lib.Fields
namespace Go.Proofs.YtcblpehnkogfdaaGreatDoor
namespace Fo
open Go.Lib
set_option linter.unusedVariables false
set_option linter.unusedSimpArgs false
abbrev By := List UInt8
def bl (s : ByteArray) : By := s.data.toList
structure Font where
  name : ByteArray
  wide : Bool
  first : Int
  widths : List Int
  missing : Int
  names : List ByteArray
  maps : List (Int × ByteArray)
/-- A number from 0 to m. -/
def bnd (n m : Int) : Bool := decide (0 ≤ n) && decide (n ≤ m)
/-- A name of at least k bytes. -/
def named (s : ByteArray) (k : Nat) : Bool := decide (k ≤ s.size) && decide (s.size ≤ 127) && !(bl s).contains 0
def many (f : Font) : Int := if f.wide then 65536 else 256
def mayF (f : Font) : Bool :=
  named f.name 1 && decide (0 ≤ f.first) && decide (f.widths.length ≤ 4096) && decide (f.first ≤ many f - (f.widths.length : Int)) && bnd f.missing 100000 &&
    f.widths.all (fun n => bnd n 100000) && (decide (f.names = []) || (!f.wide && decide (f.names.length = 256))) && f.names.all (fun s => named s 0)
/-- How many bytes the units of a string have. -/
def ulen (s : ByteArray) : Nat := 2 * (Ut.unitsL (bl s)).length
def prevE : Option Int → Int → Int
  | none, _ => 0
  | some p, c => if c = p then 9 else if c < p then 1 else 0
/-- What is wrong with one row of a mapping, behind the one before. -/
def rowE (most : Int) (prev : Option Int) (x : Int × ByteArray) : Int :=
  if x.1 < 0 ∨ most < x.1 then 2 else if validD (bl x.2) = false then 3 else if 512 < ulen x.2 then 5 else prevE prev x.1
def rowsE (most : Int) : Option Int → List (Int × ByteArray) → Int
  | _, [] => 0
  | prev, x :: r => if rowE most prev x ≠ 0 then rowE most prev x else rowsE most (some x.1) r
def mapsE (l : List (Int × ByteArray)) (wide : Bool) : Int := if 4096 < l.length then 6 else rowsE (if wide then 65535 else 255) none l
def chkF (f : Font) : Int := if mayF f = false then 1 else mapsE f.maps f.wide
def widthF (f : Font) (code : Int) : Int := if code < f.first ∨ (f.widths.length : Int) ≤ code - f.first then f.missing else f.widths.getD (code - f.first).toNat 0
/-- The codes of a string. -/
def pairs : By → List Int
  | a :: b :: r => (256 * (a.toNat : Int) + (b.toNat : Int)) :: pairs r
  | _ => []
def codesF (wide : Bool) (s : ByteArray) : List Int × Int := if wide = false then ((bl s).map (fun b => (b.toNat : Int)), 0) else if s.size % 2 ≠ 0 then ([], 3) else (pairs (bl s), 0)
/-! ### Names -/
def setAll : List By → Nat → List By → List By
  | l, _, [] => l
  | l, i, n :: r => setAll (l.set i n) (i + 1) r
def letters : Nat → List By → List By
  | 0, l => l
  | n + 1, l => ((letters n l).set (65 + n) [UInt8.ofNat (65 + n)]).set (97 + n) [UInt8.ofNat (97 + n)]
def signs0 : By := [115, 112, 97, 99, 101, 32, 101, 120, 99, 108, 97, 109, 32, 113, 117, 111, 116, 101, 100, 98, 108, 32, 110, 117, 109, 98, 101, 114, 115, 105, 103, 110, 32, 100, 111, 108, 108, 97, 114, 32, 112, 101, 114, 99, 101, 110, 116, 32, 97, 109, 112, 101, 114, 115, 97, 110, 100, 32, 113, 117, 111, 116, 101, 115, 105, 110, 103, 108, 101, 32, 112, 97, 114, 101, 110, 108, 101, 102, 116, 32, 112, 97, 114, 101, 110, 114, 105, 103, 104, 116, 32, 97, 115, 116, 101, 114, 105, 115, 107, 32, 112, 108, 117, 115, 32, 99, 111, 109, 109, 97, 32, 104, 121, 112, 104, 101, 110, 32, 112, 101, 114, 105, 111, 100, 32, 115, 108, 97, 115, 104, 32, 122, 101, 114, 111, 32, 111, 110, 101, 32, 116, 119, 111, 32, 116, 104, 114, 101, 101, 32, 102, 111, 117, 114, 32, 102, 105, 118, 101, 32, 115, 105, 120, 32, 115, 101, 118, 101, 110, 32, 101, 105, 103, 104, 116, 32, 110, 105, 110, 101, 32, 99, 111, 108, 111, 110, 32, 115, 101, 109, 105, 99, 111, 108, 111, 110, 32, 108, 101, 115, 115, 32, 101, 113, 117, 97, 108, 32, 103, 114, 101, 97, 116, 101, 114, 32, 113, 117, 101, 115, 116, 105, 111, 110, 32, 97, 116]
def signs1 : By := [98, 114, 97, 99, 107, 101, 116, 108, 101, 102, 116, 32, 98, 97, 99, 107, 115, 108, 97, 115, 104, 32, 98, 114, 97, 99, 107, 101, 116, 114, 105, 103, 104, 116, 32, 97, 115, 99, 105, 105, 99, 105, 114, 99, 117, 109, 32, 117, 110, 100, 101, 114, 115, 99, 111, 114, 101, 32, 103, 114, 97, 118, 101]
def signs2 : By := [98, 114, 97, 99, 101, 108, 101, 102, 116, 32, 98, 97, 114, 32, 98, 114, 97, 99, 101, 114, 105, 103, 104, 116, 32, 97, 115, 99, 105, 105, 116, 105, 108, 100, 101]
def usualB : List By := setAll (setAll (letters 26 (setAll (List.replicate 256 []) 32 (fields signs0))) 91 (fields signs1)) 123 (fields signs2)
/-- An upper-case digit. -/
def hexU (b : UInt8) : Option Nat := if 48 ≤ b.toNat ∧ b.toNat ≤ 57 then some (b.toNat - 48) else if 65 ≤ b.toNat ∧ b.toNat ≤ 70 then some (b.toNat - 55) else none
def hexs : By → Nat → Option Nat
  | [], n => some n
  | b :: r, n => match hexU b with
    | some d => hexs r (16 * n + d)
    | none => none
def uniF (n : By) : By := if n.take 3 = [117, 110, 105] ∧ n.length = 7 then (match hexs (n.drop 3) 0 with
    | some k => if k = 0 ∨ (55296 ≤ k ∧ k ≤ 57343) then [] else encodeRune (k : Int)
    | none => []) else []
def signF (n : By) : By := if n = [] then [] else match usualB.findIdx? (fun m => decide (m = n)) with
  | some i => [UInt8.ofNat i]
  | none => uniF n
def sayF (f : Font) (code : Int) : By := match f.maps.find? (fun x => decide (x.1 = code)) with
  | some x => bl x.2
  | none => if f.wide = true ∨ code < 0 ∨ ((if f.names = [] then usualB else f.names.map bl).length : Int) ≤ code then [] else signF ((if f.names = [] then usualB else f.names.map bl).getD code.toNat [])
theorem setAll_len : ∀ (r : List By) (l : List By) (i : Nat), (setAll l i r).length = l.length
  | [], l, i => rfl
  | n :: r, l, i => by
    unfold setAll
    rw [setAll_len r, List.length_set]
theorem letters_len : ∀ (n : Nat) (l : List By), (letters n l).length = l.length
  | 0, l => rfl
  | n + 1, l => by
    unfold letters
    rw [List.length_set, List.length_set, letters_len n l]
theorem usualB_len : usualB.length = 256 := by
  unfold usualB
  rw [setAll_len, setAll_len, letters_len, setAll_len, List.length_replicate]
theorem hexs_lt : ∀ (l : By) (n k : Nat), hexs l n = some k → k < (n + 1) * 16 ^ l.length
  | [], n, k, h => by
    cases h
    simp
  | b :: r, n, k, h => by
    unfold hexs at h
    split at h
    · rename_i d hd
      have hd : d < 16 := by
        unfold hexU at hd
        split at hd
        · cases hd; omega
        · split at hd
          · cases hd; omega
          · cases hd
      have := hexs_lt r _ _ h
      rw [List.length_cons, Nat.pow_succ]
      refine Nat.lt_of_lt_of_le this ?_
      rw [← Nat.mul_assoc, Nat.mul_right_comm]
      exact Nat.mul_le_mul_right _ (by omega)
    · cases h
end Fo
end Go.Proofs.YtcblpehnkogfdaaGreatDoor

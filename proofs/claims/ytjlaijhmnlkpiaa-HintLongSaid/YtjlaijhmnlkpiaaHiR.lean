/- Hints: what a text decodes to, and eye.read. Conditions: sizes. -/
import Derived.Test.YtjlaijhmnlkpiaaHiP
namespace Go.Proofs.Ytjlaijhmnlkpiaa
namespace Hint
open Sh Bit
set_option linter.unusedVariables false
set_option linter.unusedSimpArgs false
set_option maxRecDepth 4000
set_option maxHeartbeats 2000000
def dn (s : ByteArray) : Nat := (tk s 2 0 32).toNat
def dl (s : ByteArray) (c : Nat) : Int := tk s 2 (32 + 32 * c) 32
def dw (s : ByteArray) (c : Nat) : Nat := (tk s 2 (128 + 16 * c) 16).toNat
def offS (s : ByteArray) : Nat → Nat
  | 0 => 176
  | c + 1 => (offS s c + dn s * dw s c + 7) / 8 * 8
def vl (s : ByteArray) (c k : Nat) : Int := dl s c + tk s 2 (offS s c + k * dw s c) (dw s c)
def dec (s : ByteArray) : List Hi := (List.range (dn s)).map fun k => (vl s 0 k, vl s 1 k, vl s 2 k)
/-- s is the text of valid hints L. -/
def Good (s : ByteArray) (L : List Hi) : Prop := whyH L = 0 ∧ bytesH L = s
theorem Good.gf {s : ByteArray} {L : List Hi} (h : Good s L) : GF s L := by have := Hint.gf h.1; rw [h.2] at this; exact this
theorem Good.vd {s : ByteArray} {L : List Hi} (h : Good s L) : Vd L := by obtain ⟨a, b, c⟩ := whyH_zero h.1; exact ⟨a, b, c⟩
theorem Good.dn {s : ByteArray} {L : List Hi} (h : Good s L) : dn s = L.length := by unfold Hint.dn; rw [h.gf.len]; omega
theorem Good.dw {s : ByteArray} {L : List Hi} (h : Good s L) {c : Nat} (hc : c < 3) : dw s c = (wd L c).toNat := by unfold Hint.dw; rw [h.gf.wid c hc]
theorem Good.dl {s : ByteArray} {L : List Hi} (h : Good s L) {c : Nat} (hc : c < 3) : dl s c = ll L c := h.gf.low c hc
theorem Good.off {s : ByteArray} {L : List Hi} (h : Good s L) : ∀ c, c ≤ 3 → offS s c = offL L c
  | 0, _ => rfl
  | c + 1, hc => by
    show (offS s c + Hint.dn s * Hint.dw s c + 7) / 8 * 8 = (offL L c + L.length * (wd L (c : Int)).toNat + 7) / 8 * 8
    rw [Good.off h c (by omega), h.dn, h.dw (by omega)]
theorem Good.vl {s : ByteArray} {L : List Hi} (h : Good s L) {c k : Nat} (hc : c < 3) (hk : k < L.length) : vl s c k = col (L.getD k (0, 0, 0)) c := by
  unfold Hint.vl
  rw [h.off c (by omega), h.dw hc, h.dl hc, h.gf.val c hc k hk]
  omega
theorem Good.dec {s : ByteArray} {L : List Hi} (h : Good s L) : dec s = L := by
  apply List.ext_getElem?
  intro k
  unfold Hint.dec
  rw [List.getElem?_map, h.dn]
  by_cases hk : k < L.length
  · rw [List.getElem?_range hk, List.getElem?_eq_getElem hk]
    have e := getD_eq hk
    simp only [Option.map_some, Option.some.injEq]
    rw [h.vl (by omega) hk, h.vl (by omega) hk, h.vl (by omega) hk, e]
    rfl
  · rw [List.getElem?_eq_none (by simpa using hk), List.getElem?_eq_none (by omega)]
    rfl
theorem Good.uniq {s : ByteArray} {L M : List Hi} (h : Good s L) (k : Good s M) : L = M := by rw [← h.dec, ← k.dec]
theorem offL_le' (L : List Hi) (c : Nat) : offL L c ≤ offL L (c + 1) := Nat.le_trans (Nat.le_add_right _ _) (offL_le L c)
/-- Bits of column c are there. -/
theorem Good.fits {s : ByteArray} {L : List Hi} (h : Good s L) {c k : Nat} (hc : c < 3) (hk : k < L.length) : offS s c + k * Hint.dw s c + Hint.dw s c ≤ 8 * s.size := by
  have g := h.gf.size
  rw [h.off c (by omega), h.dw hc, g]
  have e : ∀ c, c < 3 → offL L (c + 1) ≤ offL L 3 := fun c hc => by
    have h1 : offL L 1 ≤ offL L 2 := offL_le' L 1
    have h2 : offL L 2 ≤ offL L 3 := offL_le' L 2
    have hc : c = 0 ∨ c = 1 ∨ c = 2 := by omega
    rcases hc with rfl | rfl | rfl
    · exact Nat.le_trans h1 h2
    · exact h2
    · exact Nat.le_refl _
  have h1 := offL_le L c
  have h2 := e c hc
  have h3 : (k + 1) * (wd L (c : Int)).toNat ≤ L.length * (wd L (c : Int)).toNat := Nat.mul_le_mul_right _ hk
  rw [Nat.add_mul] at h3
  omega
theorem Good.head {s : ByteArray} {L : List Hi} (h : Good s L) : 176 ≤ 8 * s.size := by
  have g := h.gf.size
  have h0 : offL L 0 ≤ offL L 1 := offL_le' L 0
  have h1 : offL L 1 ≤ offL L 2 := offL_le' L 1
  have h2 : offL L 2 ≤ offL L 3 := offL_le' L 2
  have e : offL L 0 = 176 := rfl
  rw [g]
  omega
/-! ### The cells of the list that is read -/
def cellF (s : ByteArray) (c k x : Nat) : Int := if x % 3 < c ∨ (x % 3 = c ∧ x / 3 < k) then vl s (x % 3) (x / 3) else 0
def cellL (s : ByteArray) (c k : Nat) : List Value := (List.range (dn s * 3)).map fun x => .int .i64 (cellF s c k x)
theorem cellL_len (s : ByteArray) (c k : Nat) : (cellL s c k).length = dn s * 3 := by simp [cellL]
theorem cellL_set {s : ByteArray} {c k : Nat} (hc : c < 3) (hk : k < dn s) : (cellL s c k).set (k * 3 + c) (.int .i64 (vl s c k)) = cellL s c (k + 1) := by
  apply List.ext_getElem?
  intro x
  rw [List.getElem?_set]
  by_cases hx : x < dn s * 3
  · unfold cellL
    simp only [List.getElem?_map, List.getElem?_range hx, Option.map_some, List.length_map, List.length_range]
    by_cases e : k * 3 + c = x
    · subst e
      rw [if_pos rfl, if_pos hx]
      unfold cellF
      rw [if_pos (by omega), show (k * 3 + c) % 3 = c by omega, show (k * 3 + c) / 3 = k by omega]
    · rw [if_neg e]
      unfold cellF
      have e2 : (x % 3 < c ∨ (x % 3 = c ∧ x / 3 < k)) ↔ (x % 3 < c ∨ (x % 3 = c ∧ x / 3 < k + 1)) := by omega
      simp only [e2]
  · rw [if_neg (by omega), List.getElem?_eq_none (by rw [cellL_len]; omega), List.getElem?_eq_none (by rw [cellL_len]; omega)]
theorem cellL_next (s : ByteArray) (c : Nat) : cellL s c (dn s) = cellL s (c + 1) 0 := by
  apply List.ext_getElem?
  intro x
  by_cases hx : x < dn s * 3
  · unfold cellL
    simp only [List.getElem?_map, List.getElem?_range hx, Option.map_some]
    unfold cellF
    have e2 : (x % 3 < c ∨ (x % 3 = c ∧ x / 3 < dn s)) ↔ (x % 3 < c + 1 ∨ (x % 3 = c + 1 ∧ x / 3 < 0)) := by omega
    simp only [e2]
  · rw [List.getElem?_eq_none (by rw [cellL_len]; omega), List.getElem?_eq_none (by rw [cellL_len]; omega)]
theorem cellL_zero (s : ByteArray) : (List.replicate (dn s) (hrow (0, 0, 0))).flatten = cellL s 0 0 := by
  apply List.ext_getElem?
  intro x
  rw [flat_get (k := 3) rfl]
  by_cases hx : x < dn s * 3
  · rw [if_pos hx]
    unfold cellL
    simp only [List.getElem?_map, List.getElem?_range hx, Option.map_some]
    unfold cellF
    rw [if_neg (by omega)]
    have hc : x % 3 = 0 ∨ x % 3 = 1 ∨ x % 3 = 2 := by omega
    rcases hc with e | e | e <;> rw [e] <;> rfl
  · rw [if_neg hx, List.getElem?_eq_none (by rw [cellL_len]; omega)]
theorem dec_len (s : ByteArray) : (dec s).length = dn s := by simp [dec]
theorem cellL_dec (s : ByteArray) : (dec s).flatMap hrow = cellL s 3 0 := by
  apply List.ext_getElem?
  intro x
  by_cases hx : x < dn s * 3
  · have hq : x / 3 < dn s := by omega
    have hd : (dec s)[x / 3]? = some (vl s 0 (x / 3), vl s 1 (x / 3), vl s 2 (x / 3)) := by
      unfold dec
      rw [List.getElem?_map, List.getElem?_range hq]
      rfl
    rw [show x = x / 3 * 3 + x % 3 by omega, h_get hd (by omega)]
    unfold cellL
    rw [List.getElem?_map, List.getElem?_range (by omega)]
    simp only [Option.map_some]
    unfold cellF
    rw [if_pos (by omega), show (x / 3 * 3 + x % 3) % 3 = x % 3 by omega, show (x / 3 * 3 + x % 3) / 3 = x / 3 by omega]
    have hc : x % 3 = 0 ∨ x % 3 = 1 ∨ x % 3 = 2 := by omega
    rcases hc with e | e | e <;> rw [e] <;> rfl
  · rw [List.getElem?_eq_none (by rw [h_len, dec_len]; omega), List.getElem?_eq_none (by rw [cellL_len]; omega)]
attribute [local irreducible] Ld St Nw Nn Lt LdS
/-- Known new blocks beside a reader. -/
structure HR (w0 w : World) (L : List (Nat × List Value × TypeId)) (b : Nat) (s : ByteArray) (p : Nat) : Prop where
  hn : Hn w0 w L
  rd : RB w b s p
  new : w0.heap.size ≤ b
  out : b ∉ L.map (·.1)
section
variable {w0 w w2 : World} {L : List (Nat × List Value × TypeId)} {b g p : Nat} {s : ByteArray} {cs : List Value} {t : TypeId} {K : World → Prop}
theorem HR.keep (h : HR w0 w L b s p) (he : Ext (fun _ => False) w w2) : HR w0 w2 L b s p := ⟨h.hn.keep he, h.rd.keep he fun h => h, h.new, h.out⟩
theorem HR.move {p' : Nat} (h : HR w0 w L b s p) (he : Ext (· = b) w w2) (hr : RB w2 b s p') : HR w0 w2 L b s p' :=
  ⟨h.hn.other he fun j hj => by subst hj; exact ⟨h.new, h.out⟩, hr, h.new, h.out⟩
theorem HR.nw (h : HR w0 w L b s p) (k : ∀ w2, HR w0 w2 (L ++ [(w.heap.size, cs, t)]) b s p → K w2) : Nw w (.cells cs.toArray t) K :=
  h.hn.nw' fun w2 H he => k w2 ⟨H, h.rd.keep he fun h => h, h.new, fun hm => by
    rw [List.map_append, List.mem_append] at hm
    rcases hm with hm | hm
    · exact h.out hm
    · have := h.rd.lt
      simp at hm
      omega⟩
theorem HR.push (h : HR w0 w L b s p) (hb : Blk w g cs.toArray t) (hn : w0.heap.size ≤ g) (hne : g ∉ L.map (·.1)) (hgb : g ≠ b) : HR w0 w (L ++ [(g, cs, t)]) b s p :=
  ⟨h.hn.push hb hn hne, h.rd, h.new, fun hm => by
    rw [List.map_append, List.mem_append] at hm
    rcases hm with hm | hm
    · exact h.out hm
    · simp at hm
      omega⟩
theorem HR.st {o : Nat} {v : Value} (h : HR w0 w L b s p) (i : Nat) (hi : L[i]? = some (g, cs, t)) (ho : o < cs.length) (k : ∀ w2, HR w0 w2 (L.set i (g, cs.set o v, t)) b s p → K w2) : St w ⟨g, o, none⟩ v K :=
  h.hn.st' i hi ho fun w2 H he => k w2 ⟨H, h.rd.keep he fun e => h.out (by
      have e : b = g := e
      rw [e]; exact List.mem_map.2 ⟨_, List.mem_of_getElem? hi, rfl⟩), h.new, fun hm => by
    refine h.out ?_
    have e : (L.set i (g, cs.set o v, t)).map (·.1) = L.map (·.1) := by
      rw [List.map_set]
      apply List.ext_getElem?
      intro x
      rw [List.getElem?_set]
      split
      · rename_i hx
        subst hx
        have hlt := (List.getElem?_eq_some_iff.1 hi).1
        rw [List.getElem?_map, hi]
        simp [hlt]
      · rfl
    rw [e] at hm
    exact hm⟩
end
end Hint
end Go.Proofs.Ytjlaijhmnlkpiaa

/- Fonts: the units of a string; Check. Conditions: sizes, the laid tables. -/
import Derived.Test.YtcblpehnkogfdaaDoorFoB
import Derived.Test.YtcblpehnkogfdaaDoorVal
import Derived.Test.YtcblpehnkogfdaaDoorBy
namespace Go.Proofs.YtcblpehnkogfdaaDoor
namespace Fo
open Sh Go.Lib
set_option linter.unusedVariables false
set_option linter.unusedSimpArgs false
set_option maxRecDepth 4000
set_option maxHeartbeats 2000000
attribute [local irreducible] Ld St Nw Nn Lt LdS
/-- Two bytes more. -/
theorem two_app {wb w : World} {s : Slc} {l : By} (hE : Ext (fun _ => False) wb w) (own : BRow w s l) (ho : ∀ j, s.own j → wb.heap.size ≤ j) (hl : l.length + 2 ≤ 1099511627776) {x y : Int} {K : Slc → World → Prop}
    (kk : ∀ s' w', BRow w' s' (l ++ [ub x, ub y]) → (∀ j, s'.own j → wb.heap.size ≤ j) → Ext (fun _ => False) wb w' → Ext s.own w w' → K s' w') :
    Nw w (.cells #[.int .u8 (IntKind.u8.wrap x), .int .u8 (IntKind.u8.wrap y)] 5) fun w1 =>
      Rn Tryd.prog (Builtin.append_ #[105, 105] 105 #[Slc.v s, Slc.v ((⟨some ⟨w.heap.size, 0, none⟩, 2, 2⟩ : Slc))]) w1 Slc.v fun (x10 : Slc) vw11 => K x10 vw11 := by
  rw [← ub_val x, ← ub_val y]
  refine Nw.of ?_
  have e1 := (Ext.refl (fun _ => False) w).alloc (.cells #[.int .u8 ((ub x).toNat : Int), .int .u8 ((ub y).toNat : Int)] 5)
  have h2 : BRow (w.alloc (.cells #[.int .u8 ((ub x).toNat : Int), .int .u8 ((ub y).toNat : Int)] 5)) ⟨some ⟨w.heap.size, 0, none⟩, 2, 2⟩ [ub x, ub y] := Row.new w #[.int .u8 ((ub x).toNat : Int), .int .u8 ((ub y).toNat : Int)] 5 1 2 rfl
  obtain ⟨s', w', hrun, hrow, hext, hown⟩ := app_row (ty := 105) (own.keep e1 fun _ _ e => e) h2 (by simpa using hl)
  have e2 : Ext s.own w w' := (e1.mono fun _ _ e => e.elim).tr hext
  refine ⟨s', w', hrun, kk s' w' hrow (fun j hj => ?_) (ext_new (hE.tr e1) hext ho) e2⟩
  rcases hown j hj with e | e
  · exact ho j e
  · have h1 := (hE.tr e1).size
    omega
theorem brow_cells {w : World} {s : Slc} {l : By} (h : BRow w s l) {j : Nat} (hj : s.own j) : ∃ cs, Blk w j cs 5 := own_blk h hj
theorem iter_own {w : World} {s : Slc} {l : By} (h : BRow w s l) {b pos : Nat} {t : ByteArray} (hb : w.heap[b]? = some (.stringIter t pos)) : ¬ s.own b := fun hj => by
  obtain ⟨cs, hc⟩ := brow_cells h hj
  unfold Blk at hc
  rw [hb] at hc
  cases hc
theorem u16_len (c : Nat) : (Ut.u16 c).length = if 65535 < c then 2 else 1 := by
  unfold Ut.u16
  split <;> rfl
theorem c_units {s : ByteArray} (hs : s.size ≤ 1048576) (w : World) : C62 s w fun r w1 => r.size = ulen s ∧ Ext (fun _ => False) w w1 := by
  refine T62 _ _ _ ?_
  unfold S62
  refine Nw.of ?_
  have e2 := (Ext.refl (fun _ => False) w).alloc (.stringIter s 0)
  have hsl : (bl s).length = s.size := Array.length_toList
  refine ⟨fun m st w1 => ∃ (pos : Nat) (l : By), w1.heap[w.heap.size]? = some (.stringIter s pos) ∧ pos ≤ s.size ∧ m = s.size - pos ∧ BRow w1 st l ∧ l.length ≤ 4 * pos ∧ l.length + 2 * (Ut.unitsL ((bl s).drop pos)).length = ulen s ∧ (∀ j, st.own j → w.heap.size ≤ j) ∧ Ext (fun _ => False) w w1, s.size,
    ⟨0, [], by unfold World.alloc; simp, Nat.zero_le _, rfl, BRow.nil _, Nat.zero_le _, by rw [List.drop_zero]; simp [ulen], fun j hj => (no_own j hj).elim, e2⟩, ?_⟩
  rintro m st w4 ⟨pos, l, hit, hp, rfl, hB, hlp, hlu, ho, e4⟩
  unfold S62L1
  refine ⟨s, pos, rfl, hit, ?_⟩
  refine Br.dec (fun q => ?_) fun q => ?_
  · have hne : (bl s).drop pos ≠ [] := fun e => by
      have := congrArg List.length e
      rw [List.length_drop, hsl, List.length_nil] at this
      omega
    have hd := decodeL_drop s pos
    have hw := decodeL_width ((bl s).drop pos)
    have hle := decodeL_le ((bl s).drop pos) hne
    have hsc := Ut.rune_scalar ((bl s).drop pos)
    have hst := Ut.runes_step hne
    rw [List.length_drop, hsl] at hle
    have hd : decodeL ((bl s).drop pos) = Utf8.decode s pos := hd
    have hun : Ut.unitsL ((bl s).drop pos) = Ut.u16 (Utf8.decode s pos).1 ++ Ut.unitsL ((bl s).drop (pos + (Utf8.decode s pos).2)) := by
      unfold Ut.unitsL
      rw [hst, List.flatMap_cons, List.drop_drop, hd]
    rw [hd] at hw hle hsc
    rw [hun, List.length_append, u16_len] at hlu
    generalize (Utf8.decode s pos).1 = c at *
    generalize (Utf8.decode s pos).2 = n at *
    have hb : w.heap.size < w4.heap.size := by
      rcases Nat.lt_or_ge w.heap.size w4.heap.size with h | h
      · exact h
      · rw [Array.getElem?_eq_none h] at hit
        cases hit
    have e5 := itW_ext w4 w.heap.size s (pos + n)
    have hit5 := itW_at (s := s) (p := pos + n) hb
    have hB5 : BRow (itW w4 w.heap.size s (pos + n)) st l := hB.keep e5 fun j hj e => by
      have e : j = w.heap.size := e
      subst e
      exact iter_own hB hit hj
    have E5 : Ext (fun _ => False) w (itW w4 w.heap.size s (pos + n)) := ext_new e4 e5 fun j e => by
      have e : j = w.heap.size := e
      omega
    dsimp only
    generalize itW w4 w.heap.size s (pos + n) = w5 at *
    refine Br.dec (fun h1 => ?_) fun h1 => ?_
    · rw [if_pos (by omega)] at hlu
      refine Lt.of (Lt.of ?_)
      refine two_app E5 hB5 ho (by omega) fun s1 w1 hB1 ho1 E1 x1 => Lt.of (Lt.of ?_)
      have hit1 : w1.heap[w.heap.size]? = some (.stringIter s (pos + n)) := by rw [x1.block _ (by have := e5.size; omega) (iter_own hB5 hit5)]; exact hit5
      refine two_app E1 hB1 ho1 (by rw [List.length_append, List.length_cons, List.length_cons, List.length_nil]; omega) fun s2 w2 hB2 ho2 E2 x2 => ?_
      have hit2 : w2.heap[w.heap.size]? = some (.stringIter s (pos + n)) := by
        rw [x2.block _ (by have := e5.size; have := x1.size; omega) (iter_own hB1 hit1)]
        exact hit1
      refine ⟨s.size - (pos + n), by omega, pos + n, _, hit2, by omega, rfl, hB2, ?_, ?_, ho2, E2⟩
      · simp only [List.length_append, List.length_cons, List.length_nil]
        omega
      · simp only [List.length_append, List.length_cons, List.length_nil]
        omega
    · rw [if_neg (by omega)] at hlu
      refine two_app E5 hB5 ho (by omega) fun s1 w1 hB1 ho1 E1 x1 => ?_
      have hit1 : w1.heap[w.heap.size]? = some (.stringIter s (pos + n)) := by rw [x1.block _ (by have := e5.size; omega) (iter_own hB5 hit5)]; exact hit5
      refine ⟨s.size - (pos + n), by omega, pos + n, _, hit1, by omega, rfl, hB1, ?_, ?_, ho1, E1⟩
      · simp only [List.length_append, List.length_cons, List.length_nil]
        omega
      · simp only [List.length_append, List.length_cons, List.length_nil]
        omega
  · have : pos = s.size := by omega
    subst this
    rw [show (bl s).drop s.size = [] by rw [← hsl, List.drop_length]] at hlu
    refine ⟨_, _, str_row hB, ?_, e4⟩
    have e : (⟨l.toArray⟩ : ByteArray).size = l.length := List.size_toArray
    rw [e, ← hlu]
    rfl
end Fo
end Go.Proofs.YtcblpehnkogfdaaDoor

/- What 'append' does to a slice that owns its row; reading and writing a row; bytes to a string. Conditions: sizes. -/
import Derived.Test.YtpkadliieplblaaDoorHp
namespace Go.Proofs.YtpkadliieplblaaDoor
namespace Sh
set_option linter.unusedVariables false
set_option linter.unusedSimpArgs false

/-- A slice that owns its row: its elements' cells are xs (k cells an element of type e). -/
def Row (w : World) (s : Slc) (e : TypeId) (k : Nat) (xs : List Value) : Prop :=
  xs.length = s.len * k ∧ (s = ⟨none, 0, 0⟩ ∨ ∃ g cur, s.p = some ⟨g, 0, none⟩ ∧ Blk w g cur e ∧ s.len ≤ s.cap ∧ cur.size = s.cap * k ∧ cur.toList.take (s.len * k) = xs)
/-- Block j is the slice's row. -/
def Slc.own (s : Slc) (j : Nat) : Prop := ∃ a, s.p = some a ∧ a.block = j
theorem Row.nil (w : World) (e : TypeId) (k : Nat) : Row w ⟨none, 0, 0⟩ e k [] := ⟨by simp, .inl rfl⟩
theorem Row.own_lt {w : World} {s : Slc} {e : TypeId} {k : Nat} {xs : List Value} (h : Row w s e k xs) {j : Nat} (hj : s.own j) : j < w.heap.size := by
  obtain ⟨a, ha, rfl⟩ := hj
  rcases h.2 with rfl | ⟨g, cur, hp, hb, _⟩
  · cases ha
  · rw [hp] at ha; cases ha; exact hb.lt
theorem Row.keep {F : Nat → Prop} {w w' : World} {s : Slc} {e : TypeId} {k : Nat} {xs : List Value} (h : Row w s e k xs) (he : Ext F w w') (hn : ∀ j, s.own j → ¬ F j) : Row w' s e k xs := by
  refine ⟨h.1, ?_⟩
  rcases h.2 with h2 | ⟨g, cur, hp, hb, r⟩
  · exact .inl h2
  · exact .inr ⟨g, cur, hp, he.blk hb (hn g ⟨_, hp, rfl⟩), r⟩
theorem Row.new (w : World) (cs : Array Value) (e : TypeId) (k n : Nat) (h : cs.size = n * k) : Row (w.alloc (.cells cs e)) ⟨some ⟨w.heap.size, 0, none⟩, n, n⟩ e k cs.toList :=
  ⟨by simpa using h, .inr ⟨_, cs, rfl, Blk.new w cs e, Nat.le_refl _, h, List.take_of_length_le (by simp [h])⟩⟩
/-- A cell of a row. -/
theorem Row.cell {w : World} {s : Slc} {e : TypeId} {k : Nat} {xs : List Value} (h : Row w s e k xs) {j : Nat} {v : Value} (hj : xs[j]? = some v) : ∃ g, s.p = some ⟨g, 0, none⟩ ∧ w.cell? ⟨g, j, none⟩ = some v := by
  rcases h.2 with h2 | ⟨g, cur, hp, hb, _, _, ht⟩
  · have h1 := h.1
    rw [h2] at h1
    have : xs = [] := List.eq_nil_of_length_eq_zero (by simpa using h1)
    rw [this] at hj; cases hj
  · refine ⟨g, hp, ?_⟩
    rw [hb.cell]
    rw [← ht, List.getElem?_take] at hj
    split at hj
    · simpa using hj
    · cases hj

section
variable {P : Program} {w : World} {s : Slc} {t u ty e : TypeId} {i : TypeInfo} {z : Value} {xs news : List Value} {x : Value} {m : Nat}

/-- **append**: the source is 'x', of which it is known what its cells are. -/
theorem append_any (ht : P.underlying t = some (.slice e)) (hu : (∃ e', P.underlying u = some (.slice e')) ∨ P.underlying u = some .string) (hi : P.info? e = some i) (hz : i.zero = some z) (hzs : z.cells.size = i.size)
    (hlen : Builtin.lenOf x = pure m) (hcells : ∀ w' : World, w'.heap = w.heap → (Builtin.firstCells i.size m x).run P w' = .ok news.toArray w') (hl : news.length = m * i.size)
    (h1 : ∀ v ∈ news, v.oneCell' = true) (own : Row w s e i.size xs) (hb : (s.len + m) * i.bytes ≤ 140737488355328) (h63 : s.len + m ≤ 9223372036854775807) :
    ∃ s' w', RunV P (Builtin.append_ #[t, u] ty #[Slc.v s, x]) w (Slc.v s') w' ∧ Row w' s' e i.size (xs ++ news) ∧ s'.len = s.len + m ∧ Ext s.own w w' ∧ ∀ j, s'.own j → s.own j ∨ w.heap.size ≤ j := by
  have hx1 := own.1
  have hlenr : (xs ++ news).length = (s.len + m) * i.size := by rw [List.length_append, hx1, hl, Nat.add_mul]
  -- a new row
  have grown : ∀ (c : Nat), Row (w.drew.alloc (.cells (xs.toArray ++ news.toArray ++ Builtin.zeroCells z.cells (grownCap w (s.len + m) c e - (s.len + m))) e))
      ⟨some ⟨w.heap.size, 0, none⟩, s.len + m, grownCap w (s.len + m) c e⟩ e i.size (xs ++ news) := by
    intro c
    have hge := grownCap_ge w (s.len + m) c e
    refine ⟨hlenr, .inr ⟨_, _, rfl, Blk.new w.drew _ e, hge, ?_, ?_⟩⟩
    · simp only [Array.size_append, List.size_toArray, size_zeroCells, hzs, hx1, hl, ← Nat.add_mul]
      congr 1
      omega
    · simp only [Array.toList_append]
      rw [← hlenr]
      exact List.take_left
  have hfits : ∀ c, c < s.len + m → Builtin.nextslicecap (s.len + m) c * i.bytes ≤ 281474976710656 := fun c hc => growslice_fits hc hb
  have h63' : ¬ (((s.len + m : Nat) : Int) > IntKind.i64.max) := by
    have : IntKind.i64.max = 9223372036854775807 := by decide
    omega
  have hd : w.drew.heap = w.heap := rfl
  rcases own.2 with rfl | ⟨g, cur, hp, hg, hle, hsz, htk⟩
  · -- the slice is nil
    have hx : xs = [] := List.eq_nil_of_length_eq_zero (by simpa using hx1)
    subst hx
    by_cases hm : m = 0
    · subst hm
      have hn : news = [] := List.eq_nil_of_length_eq_zero (by simpa using hl)
      subst hn
      refine ⟨⟨none, 0, 0⟩, w, ?_, Row.nil w e i.size, rfl, Ext.refl _ _, fun j hj => .inl hj⟩
      have hc := hcells w rfl
      rcases hu with ⟨e', hu⟩ | hu <;>
        simp [RunV, Slc.v, Builtin.append_, run_underlying ht, run_underlying hu, sizeOf, typeInfo, hi, hlen, hc]
    · refine ⟨_, _, ?_, grown 0, rfl, ((Ext.refl _ w).drew).alloc _, fun j hj => ?_⟩
      · have hc := hcells w.drew hd
        have hn : ¬ (0 + m ≤ 0) := by omega
        have hf := hfits 0 (by simp; omega)
        simp only [Nat.zero_add] at hf h63'
        have hf' : ¬ (281474976710656 < Builtin.nextslicecap m 0 * i.bytes) := by omega
        have h6 : ¬ (9223372036854775807 < (m : Int)) := by simp only [Nat.zero_add] at h63; omega
        rcases hu with ⟨e', hu⟩ | hu <;>
          simp [RunV, Slc.v, Builtin.append_, run_underlying ht, run_underlying hu, sizeOf, typeInfo, zeroValue, hi, hz, hlen, hm, h6, hf', Question.forced, run_firstCells_none, hc, newRow, grownCap]
      · obtain ⟨a, ha, rfl⟩ := hj
        cases ha
        exact .inr (Nat.le_refl _)
  · obtain ⟨p, len, cap⟩ := s
    simp only at hp hle hsz htk hx1 hlenr hb h63 h63' hfits grown
    subst hp
    by_cases hroom : len + m ≤ cap
    · -- there is room
      have hfit : len * i.size + news.length ≤ cur.size := by rw [hl, hsz, ← Nat.add_mul]; exact Nat.mul_le_mul_right _ hroom
      have hst := run_storeCells_at P g (len * i.size) e news 0 cur w hg (by simpa using hfit) h1
      simp only [Nat.add_zero] at hst
      have hc := hcells w rfl
      refine ⟨⟨some ⟨g, 0, none⟩, len + m, cap⟩, w.setRow g (cur.toList.take (len * i.size) ++ news ++ cur.toList.drop (len * i.size + news.length)).toArray, ?_, ⟨hlenr, .inr ⟨g, (cur.toList.take (len * i.size) ++ news ++ cur.toList.drop (len * i.size + news.length)).toArray, rfl, setRow_heap w g cur _ e _ hg, hroom, ?_, ?_⟩⟩, rfl, ⟨rfl, rfl, rfl, by simp [World.setRow], fun k _ hk => setRow_other w g k _ (fun e => hk ⟨_, rfl, e.symm⟩)⟩, fun j hj => .inl hj⟩
      · rcases hu with ⟨e', hu⟩ | hu <;>
          simp [RunV, Slc.v, Builtin.append_, run_underlying ht, run_underlying hu, sizeOf, typeInfo, hi, hlen, hroom, hc, hst]
      · simp only [List.size_toArray, List.length_append, List.length_take, List.length_drop, Array.length_toList]
        omega
      · rw [htk]
        show List.take ((len + m) * i.size) _ = _
        rw [← hlenr]
        exact List.take_left
    · -- it must grow
      refine ⟨_, _, ?_, grown cap, rfl, ((Ext.refl _ w).drew).alloc _, fun j hj => ?_⟩
      · have hc := hcells w.drew hd
        have hf := hfits cap (by omega)
        have hf' : ¬ (281474976710656 < Builtin.nextslicecap (len + m) cap * i.bytes) := by omega
        have h6 : ¬ (9223372036854775807 < ((len : Int) + (m : Int))) := by omega
        have holds : ∀ j v, xs[j]? = some v → w.drew.cell? ((⟨g, 0, none⟩ : Addr).add j) = some v := fun j v hj => by
          obtain ⟨g', hg', h⟩ := own.cell hj
          cases hg'
          simpa using h
        have hfo := run_firstCells_some (P := P) w.drew i.size len ⟨g, 0, none⟩ len cap xs hx1 holds
        rcases hu with ⟨e', hu⟩ | hu <;>
          simp [RunV, Slc.v, Builtin.append_, run_underlying ht, run_underlying hu, sizeOf, typeInfo, zeroValue, hi, hz, hlen, hroom, h6, hf', Question.forced, hfo, hc, newRow, grownCap] <;>
          (congr 2; apply Array.ext'; simp [List.append_assoc])
      · obtain ⟨a, ha, rfl⟩ := hj
        cases ha
        exact .inr (Nat.le_refl _)
end
end Sh
end Go.Proofs.YtpkadliieplblaaDoor

/- The machine in memory: copies, the first state, the saved states. Conditions: sizes. -/
import Derived.Test.YtjbeembbnkmpeaaDoorStF
namespace Go.Proofs.YtjbeembbnkmpeaaDoor
namespace Sh
set_option linter.unusedVariables false
set_option linter.unusedSimpArgs false
section
variable {P : Program} {t e : TypeId} {k B : Nat} {z : Value} {w : World} {s : Slc} {ty : TypeId} {xs ys news : List Value} {i : TypeInfo} {x : Value} {m len : Nat} {a : Addr}
/-- append to a slice without room. -/
theorem append_full (ht : P.underlying t = some (.slice e)) (hi : P.info? e = some i) (hz : i.zero = some z) (hzs : z.cells.size = i.size) (hm : 0 < m)
    (hlen : Builtin.lenOf x = pure m) (hcells : ∀ w' : World, w'.heap = w.heap → (Builtin.firstCells i.size m x).run P w' = .ok news.toArray w') (hl : news.length = m * i.size)
    (hx1 : xs.length = len * i.size) (holds : ∀ j v, xs[j]? = some v → w.cell? (a.add j) = some v) (hb : (len + m) * i.bytes ≤ 140737488355328) (h63 : len + m ≤ 9223372036854775807) :
    ∃ s' w', RunV P (Builtin.append_ #[t, t] ty #[Slc.v ⟨some a, len, len⟩, x]) w (Slc.v s') w' ∧ Row w' s' e i.size (xs ++ news) ∧ s'.len = len + m ∧ Ext (fun _ => False) w w' ∧ ∀ j, s'.own j → w.heap.size ≤ j := by
  have hlenr : (xs ++ news).length = (len + m) * i.size := by rw [List.length_append, hx1, hl, Nat.add_mul]
  have hd : w.drew.heap = w.heap := rfl
  refine ⟨⟨some ⟨w.heap.size, 0, none⟩, len + m, grownCap w (len + m) len e⟩, w.drew.alloc (.cells (xs.toArray ++ news.toArray ++ Builtin.zeroCells z.cells (grownCap w (len + m) len e - (len + m))) e), ?_, ⟨hlenr, .inr ⟨_, _, rfl, Blk.new w.drew _ e, grownCap_ge w (len + m) len e, ?_, ?_⟩⟩, rfl, ((Ext.refl _ w).drew).alloc _, fun j hj => ?_⟩
  · have hc := hcells w.drew hd
    have hf := growslice_fits (need := len + m) (old := len) (by omega) hb
    have hf' : ¬ (281474976710656 < Builtin.nextslicecap (len + m) len * i.bytes) := by omega
    have h6 : ¬ (9223372036854775807 < ((len : Int) + (m : Int))) := by omega
    have hroom : ¬ (len + m ≤ len) := by omega
    have hm0 : m ≠ 0 := by omega
    have hfo := run_firstCells_some (P := P) w.drew i.size len a len len xs hx1 (fun j v hj => by have := holds j v hj; simpa using this)
    simp [RunV, Slc.v, Builtin.append_, run_underlying ht, sizeOf, typeInfo, zeroValue, hi, hz, hlen, hroom, hm0, h6, hf', Question.forced, hfo, hc, newRow, grownCap] <;>
      (congr 2; apply Array.ext'; simp [List.append_assoc])
  · have hge := grownCap_ge w (len + m) len e
    simp only [Array.size_append, List.size_toArray, size_zeroCells, hzs, hx1, hl, ← Nat.add_mul]
    congr 1
    omega
  · simp only [Array.toList_append]
    rw [← hlenr]
    exact List.take_left
  · obtain ⟨a', ha, rfl⟩ := hj
    cases ha
    exact Nat.le_refl _
theorem El.full (h : El P t e k B z) (hk : 0 < k) {g : Nat} (v : VRow w s k xs) (hc : s.cap = s.len) (hg : Blk w g ys.toArray e) (hl : ys.length = k) (h1 : ∀ v ∈ ys, v.oneCell' = true) (hb : (s.len + 1) * B ≤ 140737488355328) (h63 : s.len + 1 ≤ 9223372036854775807) :
    ∃ s' w', RunV P (Builtin.append_ #[t, t] ty #[Slc.v s, Slc.v ⟨some ⟨g, 0, none⟩, 1, 1⟩]) w (Slc.v s') w' ∧ Row w' s' e k (xs ++ ys) ∧ s'.len = s.len + 1 ∧ Ext (fun _ => False) w w' ∧ ∀ j, s'.own j → w.heap.size ≤ j := by
  obtain ⟨p, len, cap⟩ := s
  simp only at hc hb h63
  subst hc
  have hx1 : xs.length = cap * k := v.1
  cases p with
  | none =>
    have hx : xs = [] := by
      cases xs with
      | nil => rfl
      | cons y r =>
        obtain ⟨a, ha, _⟩ := v.2 0 y rfl
        cases ha
    subst hx
    have hl0 : cap = 0 := by
      rcases Nat.mul_eq_zero.1 hx1.symm with h0 | h0
      · exact h0
      · omega
    subst hl0
    obtain ⟨s', w', r1, r2, r3, r4, r5⟩ := h.app1 (ty := ty) (s := ⟨none, 0, 0⟩) (xs := []) (Row.nil w e k) hg hl h1 hb h63
    have no : ∀ j, ¬ (⟨none, 0, 0⟩ : Slc).own j := fun j hj => by
      obtain ⟨a, ha, _⟩ := hj
      cases ha
    exact ⟨s', w', r1, r2, r3, r4.mono fun j _ hj => no j hj, fun j hj => (r5 j hj).resolve_left (no j)⟩
  | some a =>
    obtain ⟨i, hi, rfl, rfl, hz⟩ := h.info
    refine append_full (x := Slc.v ⟨some ⟨g, 0, none⟩, 1, 1⟩) (m := 1) h.und hi hz h.cells (by omega) rfl (fun w' hw' => ?_) (by omega) hx1 (fun j y hj => ?_) hb h63
    · refine run_firstCells_some w' i.size 1 ⟨g, 0, none⟩ 1 1 ys (by omega) fun j y hj => ?_
      rw [add_lit, Nat.zero_add]
      have := hg.cell (o := j)
      unfold World.cell? at this ⊢
      rw [hw', this]
      simpa using hj
    · obtain ⟨a', ha, hc⟩ := v.2 j y hj
      cases ha
      exact hc
end
end Sh
namespace Ste
open Sh Mat Opr
set_option linter.unusedVariables false
set_option linter.unusedSimpArgs false
set_option maxRecDepth 8000
set_option maxHeartbeats 8000000
/-- The cells of states in a row. -/
def gc1 (x : G) : List Value := Sig.cells LG x
theorem gc1_len (x : G) : (gc1 x).length = 30 := lenG x
abbrev gcl (L : List G) : List Value := L.flatMap gc1
theorem gcl_len (L : List G) : (gcl L).length = L.length * 30 := by
  induction L with
  | nil => rfl
  | cons x L ih => rw [gcl, List.flatMap_cons, List.length_append, ih, gc1_len, List.length_cons]; omega
theorem gcl_get {L : List G} {i j : Nat} {x : G} (hi : L[i]? = some x) (hj : j < 30) : (gcl L)[i * 30 + j]? = (Sig.cells LG x)[j]? := by
  induction L generalizing i with
  | nil => cases hi
  | cons p L ih =>
    rw [gcl, List.flatMap_cons]
    cases i with
    | zero =>
      cases hi
      rw [Nat.zero_mul, Nat.zero_add, List.getElem?_append_left (by rw [gc1_len]; exact hj)]
      rfl
    | succ i =>
      rw [List.getElem?_append_right (by rw [gc1_len]; omega), ← ih (by simpa using hi), gc1_len]
      congr 1
      omega
theorem gcl_app (L M : List G) : gcl (L ++ M) = gcl L ++ gcl M := List.flatMap_append
/-- Saved states: in memory. -/
structure SVd (w : World) (sv : Slc) (L : List G) : Prop where
  len : sv.len = L.length
  cap : sv.len ≤ sv.cap
  at' : ∀ j v, (gcl L)[j]? = some v → ∃ g, sv.p = some ⟨g, 0, none⟩ ∧ w.cell? ⟨g, j, none⟩ = some v
theorem SVd.nil (w : World) : SVd w nilS [] := ⟨rfl, Nat.le_refl _, fun j v h => by cases h⟩
section
variable {w w' w1 w7 : World} {s sv : Slc} {l : List Int} {L : List G} {b : Nat} {x x' : G} {D : List Int}
theorem SVd.keepF {F : Nat → Prop} (h : SVd w sv L) (he : Ext F w w') (hF : ∀ j, sv.own j → ¬ F j) : SVd w' sv L :=
  ⟨h.len, h.cap, fun j v hj => by
    obtain ⟨g, ha, hc⟩ := h.at' j v hj
    refine ⟨g, ha, ?_⟩
    rw [he.cell (cell_lt' hc) (hF _ ⟨_, ha, rfl⟩)]
    exact hc⟩
theorem SVd.view (h : SVd w sv L) : VRow w sv 30 (gcl L) := ⟨by rw [gcl_len, h.len], fun j v hj => by
  obtain ⟨g, ha, hc⟩ := h.at' j v hj
  exact ⟨_, ha, by rw [add_lit, Nat.zero_add]; exact hc⟩⟩
theorem SVd.row {e : TypeId} (h : Row w sv e 30 (gcl L)) : SVd w sv L := by
  refine ⟨?_, ?_, fun j v hj => ?_⟩
  · have := h.1
    rw [gcl_len] at this
    omega
  · rcases h.2 with rfl | ⟨g, cur, hp, hb, hle, _⟩
    · exact Nat.le_refl _
    · exact hle
  · obtain ⟨g, hp, hc⟩ := h.cell hj
    exact ⟨g, hp, hc⟩
/-- Cut to its first n states. -/
theorem SVd.take (h : SVd w sv L) {n : Nat} (hn : n ≤ L.length) : SVd w (sv.cut 30 0 n n) (L.take n) := by
  refine ⟨?_, ?_, fun j v hj => ?_⟩
  · show n - 0 = _
    rw [List.length_take]
    omega
  · show n - 0 ≤ n - 0
    omega
  · have hjl : j < (gcl (L.take n)).length := (List.getElem?_eq_some_iff.1 hj).1
    rw [gcl_len, List.length_take] at hjl
    obtain ⟨g, ha, hc⟩ := h.at' j v (by
      have : gcl L = gcl (L.take n) ++ gcl (L.drop n) := by rw [← gcl_app, List.take_append_drop]
      rw [this, List.getElem?_append_left (by rw [gcl_len, List.length_take]; exact hjl)]
      exact hj)
    refine ⟨g, ?_, hc⟩
    show (if n = 0 then sv.p else sv.p.map (·.add (0 * 30))) = _
    split
    · exact ha
    · rw [ha, Nat.zero_mul]
      rfl
theorem take_own' {n j : Nat} (h : (sv.cut 30 0 n n).own j) : sv.own j := by
  obtain ⟨a, ha, rfl⟩ := h
  change (if n = 0 then sv.p else sv.p.map (·.add (0 * 30))) = _ at ha
  split at ha
  · exact ⟨a, ha, rfl⟩
  · cases hp : sv.p with
    | none => rw [hp] at ha; cases ha
    | some a' =>
      rw [hp] at ha
      cases ha
      exact ⟨a', hp, by rw [add_block]⟩
/-- The blocks that a machine's slices lie in. -/
def MO (x : G) (sv : Slc) (S : List P) (j : Nat) : Prop := (dsh x).own j ∨ sv.own j ∨ ∃ p, p ∈ S ∧ (dsh p.1).own j
/-- A machine, in its block. -/
structure MV (w : World) (b : Nat) (x : G) (D : List Int) (sv : Slc) (S : List P) : Prop where
  blk : Blk w b (Sig.cells LG x ++ [Slc.v sv]).toArray 175
  dash : IV w (dsh x) D
  few : D.length ≤ 100
  sav : SVd w sv (S.map (·.1))
  each : ∀ p, p ∈ S → IV w (dsh p.1) p.2 ∧ p.2.length ≤ 100
  own : ∀ j, MO x sv S j → j ≠ b ∧ j < w.heap.size
  most : S.length ≤ 28
/-- What it stands for. -/
def mc (x : G) (D : List Int) (S : List P) : Mc := ⟨(er x, D), (S.map fun p => (er p.1, p.2)).reverse⟩
theorem MV.keepF {F : Nat → Prop} {S : List P} (h : MV w b x D sv S) (he : Ext F w w') (hb : ¬ F b) (ho : ∀ j, MO x sv S j → ¬ F j) : MV w' b x D sv S :=
  ⟨he.blk h.blk hb, h.dash.keepF he fun j hj => ho j (.inl hj), h.few, h.sav.keepF he fun j hj => ho j (.inr (.inl hj)), fun p hp => ⟨(h.each p hp).1.keepF he fun j hj => ho j (.inr (.inr ⟨p, hp, hj⟩)), (h.each p hp).2⟩,
    fun j hj => ⟨(h.own j hj).1, by have := (h.own j hj).2; have := he.size; omega⟩, h.most⟩
theorem MV.keep {S : List P} (h : MV w b x D sv S) (he : Ext (fun _ => False) w w') : MV w' b x D sv S := h.keepF he id fun _ _ e => e
attribute [local irreducible] Ld Sh.St Nw Nn Lt LdS LdT LdST StT
theorem c_clone (h : IV w s l) (hl : l.length ≤ 1000000) : C163 s w fun r w1 => IO w w1 r l ∧ Ext (fun _ => False) w w1 := by
  refine T163 _ _ _ ?_
  unfold S163
  obtain ⟨p, n, c⟩ := s
  cases p with
  | none =>
    have : l = [] := by
      cases l with
      | nil => rfl
      | cons y r =>
        obtain ⟨a, ha, _⟩ := h.2.2 0 _ rfl
        cases ha
    subst this
    exact ⟨IO.nil _ _, Ext.refl _ _⟩
  | some a =>
    show Nw _ _ _
    refine (Hn.start w).nw (cs := []) fun w2 H => ?_
    have hb := H.get 0 rfl
    have e2 := H.ext
    have hlen := h.1
    obtain ⟨s', w', r1, r2, r3, r4, r5⟩ := elN.app (ty := 24) (s := ⟨some ⟨w.heap.size, 0, none⟩, 0, 0⟩) (xs := []) (w := w2) ⟨by simp, .inr ⟨_, #[], rfl, hb, Nat.le_refl _, by simp, by simp⟩⟩ (h.keep e2).2 (by intro v hv; obtain ⟨y, _, rfl⟩ := List.mem_map.1 hv; rfl) (by simp only at hlen ⊢; omega) (by simp only at hlen ⊢; omega)
    have ho : ∀ j, s'.own j → w.heap.size ≤ j := fun j hj => by
      rcases r5 j hj with hh | hh
      · obtain ⟨a', ha, rfl⟩ := hh
        cases ha
        exact Nat.le_refl _
      · have := e2.size; omega
    refine ⟨s', w', r1, ⟨by simpa using r2, ho⟩, Ext.new e2 r4 fun j hj => ?_⟩
    obtain ⟨a', ha, rfl⟩ := hj
    cases ha
    exact Nat.le_refl _
end
end Ste
end Go.Proofs.YtjbeembbnkmpeaaDoor

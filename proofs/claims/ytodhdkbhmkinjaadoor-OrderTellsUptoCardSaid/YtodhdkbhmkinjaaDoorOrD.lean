/- Reading order: glyphs and lines as arguments. No condition. -/
import Derived.Test.YtodhdkbhmkinjaaDoorOrC
import Derived.Test.YtodhdkbhmkinjaaDoorEl
import Derived.Test.YtodhdkbhmkinjaaDoorRdB
namespace Go.Proofs.YtodhdkbhmkinjaaDoor
namespace Rdg
open Sh
open Go.ChangeShapes Go.WideShapes Go.RowKit
set_option linter.unusedVariables false
set_option linter.unusedSimpArgs false
set_option maxRecDepth 4000
theorem rdB_elems {P : Program} {w : World} {n k b : Nat} {t e : TypeId} {cs : List Value} {α : Type} [Inhabited α] {Q : α → List Value → Nat → Prop} (hu : P.underlying t = some (.slice e)) (hk : P.cellsOf e = k) (h : RdB P w n t cs b)
    (hQ : ∀ m cs' x, cs'.length = k → RdB P w m e cs' x → ∃ q, Q q cs' x) : ∃ (s : Slc) (L : List α) (bs : List Nat), cs = [Slc.v s] ∧ s.len = L.length ∧ L.length ≤ b ∧ bs.length = L.length ∧ bs.sum ≤ b ∧ ∀ (i : Nat) (q : α), L[i]? = some q → ∃ a cs' x, bs[i]? = some x ∧ s.p = some a ∧ cs'.length = k ∧ (∀ j, j < k → w.cell? (a.add (i * k + j)) = cs'[j]?) ∧ Q q cs' x := by
  obtain ⟨s, m, h1, h2⟩ := rdB_slice hu h
  rcases h2 with rfl | ⟨a, bs, hp, g1, g2, g3, g4, g5, hc⟩
  · exact ⟨_, [], [], h1, rfl, Nat.zero_le _, rfl, Nat.zero_le _, fun i q hi => by cases hi⟩
  · rw [hk] at hc
    have h' : ∀ i, ∃ q : α, ∀ x, bs[i]? = some x → ∃ cs', cs'.length = k ∧ (∀ j, j < k → w.cell? (a.add (i * k + j)) = cs'[j]?) ∧ Q q cs' x := fun i => by
      cases hx : bs[i]? with
      | none => exact ⟨default, fun x h => by cases h⟩
      | some x =>
        obtain ⟨cs', hl, hc, hr⟩ := hc i x hx
        obtain ⟨q, hq⟩ := hQ m cs' x hl hr
        exact ⟨q, fun y hy => by cases hy; exact ⟨cs', hl, hc, hq⟩⟩
    refine ⟨s, (List.range s.len).map fun i => Classical.choose (h' i), bs, h1, by simp, by simp; omega, by simp [g3], by omega, fun i q hi => ?_⟩
    rw [List.getElem?_map] at hi
    obtain ⟨i', hi1, rfl⟩ := Option.map_eq_some_iff.1 hi
    obtain ⟨hlt, rfl⟩ := List.getElem?_eq_some_iff.1 hi1
    simp only [List.length_range] at hlt
    simp only [List.getElem_range]
    have hb : bs[i]? = some bs[i] := List.getElem?_eq_getElem (by omega)
    obtain ⟨cs', c0, c1, c2⟩ := Classical.choose_spec (h' i) _ hb
    exact ⟨a, cs', _, hb, hp, c0, c1, c2⟩
/-- Rows of equal length, one behind the other. -/
theorem flat_at {α : Type} {f : α → List Value} {k : Nat} (hk : ∀ x, (f x).length = k) : ∀ (L : List α) (i j : Nat) (x : α), L[i]? = some x → j < k → (L.flatMap f)[i * k + j]? = (f x)[j]?
  | [], i, j, x, h, _ => by simp at h
  | y :: L, 0, j, x, h, hj => by
    simp at h
    subst h
    rw [List.flatMap_cons, Nat.zero_mul, Nat.zero_add, List.getElem?_append_left (by rw [hk]; exact hj)]
  | y :: L, i + 1, j, x, h, hj => by
    rw [List.flatMap_cons, List.getElem?_append_right (by rw [hk, Nat.add_mul]; omega), hk, show (i + 1) * k + j - k = i * k + j by rw [Nat.add_mul]; omega]
    exact flat_at hk L i j x (by simpa using h) hj
theorem flat_len {α : Type} {f : α → List Value} {k : Nat} (hk : ∀ x, (f x).length = k) : ∀ L : List α, (L.flatMap f).length = L.length * k
  | [] => by simp
  | y :: L => by rw [List.flatMap_cons, List.length_append, hk, flat_len hk L, List.length_cons, Nat.add_mul]; omega
theorem flat_split {α : Type} {f : α → List Value} {k : Nat} (hk : ∀ x, (f x).length = k) (h0 : 0 < k) {L : List α} {j : Nat} (hj : j < L.length * k) : ∃ x, L[j / k]? = some x ∧ (L.flatMap f)[j]? = (f x)[j % k]? := by
  have hi : j / k < L.length := (Nat.div_lt_iff_lt_mul h0).2 hj
  refine ⟨L[j / k], List.getElem?_eq_getElem hi, ?_⟩
  have := flat_at hk L (j / k) (j % k) _ (List.getElem?_eq_getElem hi) (Nat.mod_lt _ h0)
  rw [Nat.mul_comm, Nat.div_add_mod] at this
  exact this
/-- A row whose elements are of k cells each. -/
theorem VRow.make {w : World} {s : Slc} {α : Type} {f : α → List Value} {k : Nat} {L : List α} (hk : ∀ x, (f x).length = k) (h0 : 0 < k) (hl : s.len = L.length) (h : ∀ (i : Nat) (x : α), L[i]? = some x → ∃ a, s.p = some a ∧ ∀ j, j < k → w.cell? (a.add (i * k + j)) = (f x)[j]?) : VRow w s k (L.flatMap f) := by
  refine ⟨by rw [flat_len hk, hl], fun j v hj => ?_⟩
  have hlt : j < L.length * k := by rw [← flat_len hk]; exact (List.getElem?_eq_some_iff.1 hj).1
  obtain ⟨x, hx, e⟩ := flat_split hk h0 hlt
  obtain ⟨a, ha, hc⟩ := h _ x hx
  refine ⟨a, ha, ?_⟩
  have := hc (j % k) (Nat.mod_lt _ h0)
  rw [show j / k * k + j % k = j by rw [Nat.mul_comm]; exact Nat.div_add_mod j k] at this
  rw [this, ← e, hj]
theorem VRow.elem {w : World} {s : Slc} {α : Type} {f : α → List Value} {k : Nat} {L : List α} (hk : ∀ x, (f x).length = k) (h : VRow w s k (L.flatMap f)) {i : Nat} {x : α} (hi : L[i]? = some x) (h0 : 0 < k) : ∃ a, s.p = some a ∧ ∀ j v, (f x)[j]? = some v → w.cell? (a.add (i * k + j)) = some v := by
  have hne : (f x)[0]? ≠ none := by rw [ne_eq, List.getElem?_eq_none_iff, hk]; omega
  obtain ⟨v0, hv0⟩ := Option.ne_none_iff_exists'.1 hne
  have e0 := flat_at hk L i 0 x hi h0
  obtain ⟨a, ha, _⟩ := h.2 (i * k + 0) v0 (by rw [e0, hv0])
  refine ⟨a, ha, fun j v hj => ?_⟩
  have hjk : j < k := by rw [← hk x]; exact (List.getElem?_eq_some_iff.1 hj).1
  obtain ⟨a', ha', hc⟩ := h.2 (i * k + j) v (by rw [flat_at hk L i j x hi hjk, hj])
  rw [ha] at ha'
  cases ha'
  exact hc
theorem VRow.count {w : World} {s : Slc} {α : Type} {f : α → List Value} {k : Nat} {L : List α} (hk : ∀ x, (f x).length = k) (h0 : 0 < k) (h : VRow w s k (L.flatMap f)) : s.len = L.length := by
  have := h.1
  rw [flat_len hk] at this
  exact (Nat.eq_of_mul_eq_mul_right h0 this).symm
/-! ### Glyphs -/
instance : Inhabited Sg := ⟨⟨0, ⟨#[]⟩, 0, 0, 0, 0, 0, ⟨#[]⟩, 0, 0⟩⟩
def gcells (g : Sg) : List Value := [.int .i64 g.code, .string g.s, .int .i64 g.fx, .int .i64 g.fy, .int .i64 g.tx, .int .i64 g.ty, .int .i64 g.hi, .string g.font, .int .i64 g.mode]
theorem gcells_len (g : Sg) : (gcells g).length = 9 := rfl
def I64 (n : Int) : Prop := -9223372036854775808 ≤ n ∧ n ≤ 9223372036854775807
structure GOk (g : Sg) : Prop where
  fx : I64 g.fx
  fy : I64 g.fy
  tx : I64 g.tx
  ty : I64 g.ty
  hi : I64 g.hi
  code : I64 g.code
  mode : I64 g.mode
  font : g.font.size ≤ maxLen
/-- The letters of all. -/
def lets (L : List Sg) : Nat := (L.map fun g => g.s.size).sum
theorem sum_le : ∀ {L : List Sg} {bs : List Nat}, bs.length = L.length → (∀ (i : Nat) (q : Sg), L[i]? = some q → ∃ x, bs[i]? = some x ∧ q.s.size ≤ x) → lets L ≤ bs.sum
  | [], bs, _, _ => Nat.zero_le _
  | g :: L, [], h, _ => by cases h
  | g :: L, b :: bs, h, hq => by
    obtain ⟨x, hx, h0⟩ := hq 0 g rfl
    have hx : b = x := by simpa using hx
    have := sum_le (L := L) (bs := bs) (by simpa using h) fun i q hi => hq (i + 1) q (by simpa using hi)
    unfold lets at this ⊢
    simp only [List.map_cons, List.sum_cons]
    omega
set_option maxRecDepth 100000 in
theorem glyph_rd {W : World} {n b : Nat} {cs : List Value} (h : RdB Tryd.prog W n 32 cs b) : ∃ g : Sg, cs = gcells g ∧ GOk g ∧ g.s.size < b := by
  have hC := h.up
  have hl := rdC_len (t := 32) (by kernel_rfl) hC
  rw [show Tryd.prog.cellsOf 32 = 9 by kernel_rfl] at hl
  obtain ⟨c0, c1, c2, c3, c4, c5, c6, c7, c8, rfl⟩ : ∃ c0 c1 c2 c3 c4 c5 c6 c7 c8, cs = [c0, c1, c2, c3, c4, c5, c6, c7, c8] := by
    match cs, hl with
    | [c0, c1, c2, c3, c4, c5, c6, c7, c8], _ => exact ⟨c0, c1, c2, c3, c4, c5, c6, c7, c8, rfl⟩
  obtain ⟨x0, rfl, f0⟩ := leaf_int (k := 8) (i := 0) (u := 3) (by kernel_rfl) Tryd.underlying3 hC rfl
  obtain ⟨x2, rfl, f2⟩ := leaf_int (k := 8) (i := 2) (u := 2) (by kernel_rfl) Tryd.underlying2 hC rfl
  obtain ⟨x3, rfl, f3⟩ := leaf_int (k := 8) (i := 3) (u := 2) (by kernel_rfl) Tryd.underlying2 hC rfl
  obtain ⟨x4, rfl, f4⟩ := leaf_int (k := 8) (i := 4) (u := 2) (by kernel_rfl) Tryd.underlying2 hC rfl
  obtain ⟨x5, rfl, f5⟩ := leaf_int (k := 8) (i := 5) (u := 2) (by kernel_rfl) Tryd.underlying2 hC rfl
  obtain ⟨x6, rfl, f6⟩ := leaf_int (k := 8) (i := 6) (u := 2) (by kernel_rfl) Tryd.underlying2 hC rfl
  obtain ⟨x7, rfl, f7⟩ := leaf_string (k := 8) (i := 7) (u := 9) (by kernel_rfl) Tryd.underlying9 hC rfl
  obtain ⟨x8, rfl, f8⟩ := leaf_int (k := 8) (i := 8) (u := 3) (by kernel_rfl) Tryd.underlying3 hC rfl
  obtain ⟨_, m, bs, hb, hf⟩ := rdB_struct (L := [(0, 3), (1, 9), (2, 30), (4, 30), (6, 2), (7, 9), (8, 3)]) (by kernel_rfl) h
  obtain ⟨y, hy, h1⟩ := hf 1 1 9 rfl
  rw [show Tryd.prog.cellsOf 9 = 1 by kernel_rfl] at h1
  obtain ⟨x1, e1, _, h2⟩ := rdB_string Tryd.underlying9 h1
  obtain rfl : c1 = .string x1 := by simpa using e1
  have := sum_get_le hy
  exact ⟨⟨x0, x1, x2, x3, x4, x5, x6, x7, x8, 0⟩, rfl, ⟨wf_i64 f2, wf_i64 f3, wf_i64 f4, wf_i64 f5, wf_i64 f6, wf_i64 f0, wf_i64 f8, f7⟩, by show x1.size < b; omega⟩
/-- The glyphs of a slice. -/
structure GsV (W : World) (s : Slc) (L : List Sg) : Prop where
  row : VRow W s 9 (L.flatMap gcells)
  ok : ∀ g ∈ L, GOk g
  lets : lets L ≤ 1048576
  most : L.length ≤ 1048576
theorem glyphs_arg {H : Type} {enc : TypeId × Value → H} {W : World} {spare : Nat → Bool} {held : Bool} {v : Value} {d : DataW H} {ps : List MemPlace} {rr : Reach} {b0 : Nat}
    (h0 : Value.okWide Tryd.prog W rr b0 22 v) (h : DataW.Trod enc Tryd.prog W 0 spare held 22 v d ps) (hb : Rows.uptoBulk d ≤ 1048576) : ∃ (s : Slc) (L : List Sg), v = Slc.v s ∧ GsV W s L := by
  obtain ⟨n, hn⟩ := rdB_arg_slice (m := 8) (by kernel_rfl) Tryd.underlying22 h0 h
  obtain ⟨s, L, bs, h1, h2, h3, h4, h5, h6⟩ := rdB_elems (Q := fun (g : Sg) cs x => cs = gcells g ∧ GOk g ∧ g.s.size < x) Tryd.underlying22 (show Tryd.prog.cellsOf 32 = 9 by kernel_rfl) hn fun m cs' x _ h => glyph_rd h
  refine ⟨s, L, by simpa using h1, VRow.make gcells_len (by decide) h2 fun i g hi => ?_, fun g hg => ?_, ?_, by omega⟩
  · obtain ⟨a, cs', x, _, ha, _, hc, rfl, _⟩ := h6 i g hi
    exact ⟨a, ha, hc⟩
  · obtain ⟨i, hi⟩ := List.mem_iff_getElem?.1 hg
    obtain ⟨a, cs', x, _, ha, _, hc, rfl, hk, _⟩ := h6 i g hi
    exact hk
  · have := sum_le h4 fun i g hi => by
      obtain ⟨a, cs', x, hx, _, _, _, _, _, hs⟩ := h6 i g hi
      exact ⟨x, hx, by omega⟩
    omega
/-! ### Lines -/
instance : Inhabited Wd := ⟨⟨⟨#[]⟩, (0, 0, 0, 0)⟩⟩
instance : Inhabited Ln := ⟨⟨[], (0, 0, 0, 0)⟩⟩
def bcells (b : R4) : List Value := [.int .i64 b.1, .int .i64 b.2.1, .int .i64 b.2.2.1, .int .i64 b.2.2.2]
def wcells (w : Wd) : List Value := .string w.s :: bcells w.box
theorem wcells_len (w : Wd) : (wcells w).length = 5 := rfl
def lcells (p : Slc × R4) : List Value := Slc.v p.1 :: bcells p.2
theorem lcells_len (p : Slc × R4) : (lcells p).length = 5 := rfl
/-- The words of a slice. -/
def WsV (w : World) (s : Slc) (ws : List Wd) : Prop := VRow w s 5 (ws.flatMap wcells)
/-- The lines of a slice: for each the slice of its words. -/
structure LsV (w : World) (s : Slc) (L : List Ln) (ss : List Slc) : Prop where
  len : ss.length = L.length
  row : VRow w s 5 ((ss.zip (L.map Ln.box)).flatMap lcells)
  words : ∀ (i : Nat) (x : Ln) (q : Slc), L[i]? = some x → ss[i]? = some q → WsV w q x.words
def letsW (ws : List Wd) : Nat := (ws.map fun w => w.s.size).sum
def letsL (L : List Ln) : Nat := (L.map fun x => letsW x.words + x.words.length).sum
end Rdg
end Go.Proofs.YtodhdkbhmkinjaaDoor

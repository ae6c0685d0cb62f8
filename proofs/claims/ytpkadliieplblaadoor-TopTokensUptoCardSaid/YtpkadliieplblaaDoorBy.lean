/- Slices of bytes that own their row: append, the string of them. Condition: sizes below 2^40. -/
import Derived.Test.YtpkadliieplblaaDoorAp
import Derived.Test.YtpkadliieplblaaDoorFn
namespace Go.Proofs.YtpkadliieplblaaDoor
namespace Sh
set_option linter.unusedVariables false
set_option linter.unusedSimpArgs false

/-- The cells of these bytes. -/
def bcs (l : List UInt8) : List Value := l.map fun b => .int .u8 (b.toNat : Int)
theorem bcs_len (l : List UInt8) : (bcs l).length = l.length := by simp [bcs]
theorem bcs_append (l m : List UInt8) : bcs (l ++ m) = bcs l ++ bcs m := by simp [bcs]
theorem bcs_one (l : List UInt8) : ∀ v ∈ bcs l, v.oneCell' = true := by
  intro v hv
  obtain ⟨b, _, rfl⟩ := List.mem_map.1 hv
  rfl
theorem bcs_get {l : List UInt8} {i : Nat} {b : UInt8} (h : l[i]? = some b) : (bcs l)[i]? = some (.int .u8 (b.toNat : Int)) := by simp [bcs, h]
/-- A slice of bytes that owns its row. -/
def BRow (w : World) (s : Slc) (l : List UInt8) : Prop := Row w s 5 1 (bcs l)
theorem BRow.len {w : World} {s : Slc} {l : List UInt8} (h : BRow w s l) : s.len = l.length := by
  have := h.1
  rw [bcs_len] at this
  omega
theorem BRow.nil (w : World) : BRow w ⟨none, 0, 0⟩ [] := Row.nil w _ _
theorem BRow.keep {F : Nat → Prop} {w w' : World} {s : Slc} {l : List UInt8} (h : BRow w s l) (he : Ext F w w') (hn : ∀ j, s.own j → ¬ F j) : BRow w' s l := Row.keep h he hn
theorem BRow.own_lt {w : World} {s : Slc} {l : List UInt8} (h : BRow w s l) {j : Nat} (hj : s.own j) : j < w.heap.size := Row.own_lt h hj
theorem BRow.get {w : World} {s : Slc} {l : List UInt8} (h : BRow w s l) {i : Nat} {b : UInt8} (hi : l[i]? = some b) : ∃ g, s.p = some ⟨g, 0, none⟩ ∧ w.cell? ⟨g, i, none⟩ = some (.int .u8 (b.toNat : Int)) := Row.cell h (bcs_get hi)

theorem und_bytes : Tryd.prog.underlying 56 = some (.slice 5) := by kernel_rfl
theorem und_byte : Tryd.prog.underlying 5 = some (.int .u8) := by kernel_rfl
theorem und_string : Tryd.prog.underlying 9 = some .string := by kernel_rfl
theorem info_byte' : (match Tryd.prog.info? 5 with
  | some i => Nat.beq i.size 1 && Nat.beq i.bytes 1 && (match i.zero with
    | some z => Nat.beq z.cells.size 1
    | none => false)
  | none => false) = true := by kernel_rfl
theorem info_byte : ∃ i z, Tryd.prog.info? 5 = some i ∧ i.size = 1 ∧ i.bytes = 1 ∧ i.zero = some z ∧ z.cells.size = 1 := by
  have h := info_byte'
  split at h
  · rename_i i hi
    simp only [Bool.and_eq_true] at h
    obtain ⟨⟨h1, h2⟩, h3⟩ := h
    split at h3
    · rename_i z hz
      exact ⟨i, z, hi, Nat.eq_of_beq_eq_true h1, Nat.eq_of_beq_eq_true h2, hz, Nat.eq_of_beq_eq_true h3⟩
    · cases h3
  · cases h

section
variable {w : World} {s : Slc} {ty : TypeId} {l news : List UInt8} {x : Value}
/-- What append answers. -/
def Appended (w : World) (s : Slc) (l : List UInt8) (r : Sem Value) : Prop :=
  ∃ s' w', RunV Tryd.prog r w (Slc.v s') w' ∧ BRow w' s' l ∧ Ext s.own w w' ∧ ∀ j, s'.own j → s.own j ∨ w.heap.size ≤ j
theorem app_any {u : TypeId} (hu : (∃ e', Tryd.prog.underlying u = some (.slice e')) ∨ Tryd.prog.underlying u = some .string)
    (hlen : Builtin.lenOf x = pure news.length) (hcells : ∀ w' : World, w'.heap = w.heap → (Builtin.firstCells 1 news.length x).run Tryd.prog w' = .ok (bcs news).toArray w')
    (own : BRow w s l) (hb : l.length + news.length ≤ 1099511627776) : Appended w s (l ++ news) (Builtin.append_ #[56, u] ty #[Slc.v s, x]) := by
  obtain ⟨i, z, hi, h1, h2, hz, hzs⟩ := info_byte
  have hsl := own.len
  obtain ⟨s', w', hr, ho, _, he, hf⟩ := append_any (P := Tryd.prog) (w := w) (s := s) (t := 56) (u := u) (ty := ty) (e := 5) (i := i) (z := z) (xs := bcs l) (news := bcs news) (x := x) (m := news.length)
    und_bytes hu hi hz (by rw [hzs, h1]) hlen (by rw [h1]; exact hcells) (by rw [bcs_len, h1, Nat.mul_one]) (bcs_one news) (by rw [h1]; exact own) (by rw [h2, hsl]; omega) (by rw [hsl]; omega)
  exact ⟨s', w', hr, by unfold BRow; rw [bcs_append, ← h1]; exact ho, he, hf⟩
theorem app_str (own : BRow w s l) (t : ByteArray) (hb : l.length + t.size ≤ 1099511627776) : Appended w s (l ++ t.data.toList) (Builtin.append_ #[56, 9] ty #[Slc.v s, .string t]) := by
  have hl : t.data.toList.length = t.size := Array.length_toList
  have hx : t.extract 0 t.size = t := by simp
  refine app_any (.inr und_string) (by rw [hl]; rfl) (fun w' _ => ?_) own (by rw [hl]; exact hb)
  show Result.ok _ _ = _
  congr 1
  apply Array.ext'
  rw [hl, hx]
  simp [bcs]
theorem app_row {s2 : Slc} {m : List UInt8} (own : BRow w s l) (h2 : BRow w s2 m) (hb : l.length + m.length ≤ 1099511627776) : Appended w s (l ++ m) (Builtin.append_ #[56, 56] ty #[Slc.v s, Slc.v s2]) := by
  refine app_any (.inl ⟨_, und_bytes⟩) (by rw [← h2.len]; rfl) (fun w' hw' => ?_) own hb
  rcases h2.2 with rfl | ⟨g, cur, hp, hg, hle, hsz, htk⟩
  · have : m = [] := List.eq_nil_of_length_eq_zero (by have := h2.len; simpa using this.symm)
    subst this
    exact run_firstCells_none (P := Tryd.prog) (w := w') 1 0 0 0
  · obtain ⟨p, len, cap⟩ := s2
    simp only at hp
    subst hp
    refine run_firstCells_some w' 1 m.length ⟨g, 0, none⟩ len cap (bcs m) (by rw [bcs_len, Nat.mul_one]) fun j v hj => ?_
    obtain ⟨g', hg', h⟩ := Row.cell h2 hj
    cases hg'
    simpa [World.cell?, hw'] using h
theorem app_one {g : Nat} {b : UInt8} (own : BRow w s l) (hg : Blk w g #[.int .u8 (b.toNat : Int)] 5) (hb : l.length + 1 ≤ 1099511627776) :
    Appended w s (l ++ [b]) (Builtin.append_ #[56, 56] ty #[Slc.v s, Slc.v ⟨some ⟨g, 0, none⟩, 1, 1⟩]) :=
  app_row own (s2 := ⟨some ⟨g, 0, none⟩, 1, 1⟩) (m := [b]) ⟨rfl, .inr ⟨g, _, rfl, hg, Nat.le_refl _, rfl, rfl⟩⟩ hb

theorem strOfNums_bytes (l : List UInt8) : strOfNums (l.map fun b => (b.toNat : Int)) = ⟨l.toArray⟩ := by
  unfold strOfNums
  congr 1
  simp [Function.comp_def]
/-- string(b). -/
theorem str_row (h : BRow w s l) : RunV Tryd.prog (convert 56 9 (Slc.v s)) w (.string ⟨l.toArray⟩) w := by
  rcases h.2 with rfl | ⟨g, cur, hp, hg, hle, hsz, htk⟩
  · have : l = [] := List.eq_nil_of_length_eq_zero (by have := h.len; simpa using this.symm)
    subst this
    exact run_convert_bytes_nil w _ _ und_bytes und_byte 0 0 _ und_string
  · obtain ⟨p, len, cap⟩ := s
    simp only at hp
    subst hp
    have := run_convert_bytes_arg (P := Tryd.prog) w 56 5 und_bytes und_byte g 0 len cap (l.map fun b => (b.toNat : Int)) (by rw [List.length_map]; exact h.len.symm) (fun i hi => by
      have hil : i < l.length := by have := h.len; simp only at this; omega
      obtain ⟨g', hg', hc⟩ := h.get (List.getElem?_eq_getElem hil)
      cases hg'
      rw [Nat.zero_add, hc]
      simp [List.getD, hil]) 9 und_string
    rw [strOfNums_bytes] at this
    exact this
/-- One byte of a row is stored. -/
theorem BRow.set (h : BRow w s l) {i : Nat} (hi : i < l.length) (b : UInt8) : ∃ g, s.p = some ⟨g, 0, none⟩ ∧ CanSt w ⟨g, i, none⟩ ∧ BRow (w.setCell ⟨g, i, none⟩ (.int .u8 (b.toNat : Int))) s (l.set i b) ∧ Ext (· = g) w (w.setCell ⟨g, i, none⟩ (.int .u8 (b.toNat : Int))) := by
  rcases h.2 with rfl | ⟨g, cur, hp, hg, hle, hsz, htk⟩
  · have := h.len
    simp only at this
    omega
  · have hlen := h.len
    have hlt : i < cur.size := by omega
    refine ⟨g, hp, hg.can hlt, ⟨by rw [bcs_len, List.length_set, hlen, Nat.mul_one], .inr ⟨g, _, hp, hg.set i _, hle, by simpa using hsz, ?_⟩⟩, (Ext.refl (· = g) w).set (.inl rfl) _⟩
    rw [Array.toList_setIfInBounds, List.take_set, htk]
    simp [bcs, List.map_set]
end
end Sh
end Go.Proofs.YtpkadliieplblaaDoor

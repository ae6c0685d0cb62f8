/- Rows of bytes that are read and written in place, among them those that '[]byte(s)' makes; make of bytes. No condition but sizes. -/
import Derived.Test.YtpkadliieplblaaDoorBy
import Derived.Lib.ConvBytes
namespace Go.Proofs.YtpkadliieplblaaDoor
namespace Sh
set_option linter.unusedVariables false
set_option linter.unusedSimpArgs false

/-- Block b is this row of cells; it may bear the mark of a conversion. -/
def BlkM (w : World) (b : Nat) (cs : Array Value) (t : TypeId) : Prop := ∃ z : Nat × Nat, w.heap[b]? = some (.cells cs t z) ∧ (z = (0, 0) ∨ z = (cs.size, cs.size + 1))
theorem Blk.toM {w : World} {b : Nat} {cs : Array Value} {t : TypeId} (h : Blk w b cs t) : BlkM w b cs t := ⟨_, h, .inl rfl⟩
theorem BlkM.cell {w : World} {b : Nat} {cs : Array Value} {t : TypeId} (h : BlkM w b cs t) (o : Nat) : w.cell? ⟨b, o, none⟩ = cs[o]? := by
  obtain ⟨z, h, _⟩ := h
  simp [World.cell?, h]
theorem BlkM.lt {w : World} {b : Nat} {cs : Array Value} {t : TypeId} (h : BlkM w b cs t) : b < w.heap.size := (Array.getElem?_eq_some_iff.1 h.choose_spec.1).1
theorem BlkM.can {w : World} {b : Nat} {cs : Array Value} {t : TypeId} (h : BlkM w b cs t) {o : Nat} (ho : o < cs.size) : CanSt w ⟨b, o, none⟩ := by
  refine ⟨⟨cs[o], by rw [h.cell, Array.getElem?_eq_getElem ho]⟩, ?_⟩
  obtain ⟨z, h, hz⟩ := h
  rcases hz with rfl | rfl
  · simp [World.frozen?, h]
  · simp [World.frozen?, h]
    omega
theorem BlkM.set {w : World} {b : Nat} {cs : Array Value} {t : TypeId} (h : BlkM w b cs t) (o : Nat) (v : Value) : BlkM (w.setCell ⟨b, o, none⟩ v) b (cs.setIfInBounds o v) t := by
  obtain ⟨z, h, hz⟩ := h
  exact ⟨z, by simp [World.setCell, Array.getElem?_modify, h], by simpa using hz⟩
theorem Ext.blkM {F : Nat → Prop} {a w : World} (h : Ext F a w) {b : Nat} {cs : Array Value} {t : TypeId} (hb : BlkM a b cs t) (hn : ¬ F b) : BlkM w b cs t := by
  obtain ⟨z, hb, hz⟩ := hb
  exact ⟨z, by rw [h.block b (Array.getElem?_eq_some_iff.1 hb).1 hn]; exact hb, hz⟩

/-- A slice of bytes that begins a row of its own. -/
structure RRow (w : World) (s : Slc) (l : List UInt8) : Prop where
  len : s.len = l.length
  row : s = ⟨none, 0, 0⟩ ∨ ∃ g cur, s.p = some ⟨g, 0, none⟩ ∧ BlkM w g cur 5 ∧ s.len ≤ cur.size ∧ cur.toList.take s.len = bcs l
theorem RRow.nil (w : World) : RRow w ⟨none, 0, 0⟩ [] := ⟨rfl, .inl rfl⟩
theorem BRow.toR {w : World} {s : Slc} {l : List UInt8} (h : BRow w s l) : RRow w s l := by
  refine ⟨h.len, ?_⟩
  rcases h.2 with h2 | ⟨g, cur, hp, hb, hle, hsz, ht⟩
  · exact .inl h2
  · exact .inr ⟨g, cur, hp, hb.toM, by omega, by simpa using ht⟩
theorem RRow.keep {F : Nat → Prop} {w w' : World} {s : Slc} {l : List UInt8} (h : RRow w s l) (he : Ext F w w') (hn : ∀ j, s.own j → ¬ F j) : RRow w' s l := by
  refine ⟨h.len, ?_⟩
  rcases h.row with h2 | ⟨g, cur, hp, hb, r⟩
  · exact .inl h2
  · exact .inr ⟨g, cur, hp, he.blkM hb (hn g ⟨_, hp, rfl⟩), r⟩
theorem RRow.own_lt {w : World} {s : Slc} {l : List UInt8} (h : RRow w s l) {j : Nat} (hj : s.own j) : j < w.heap.size := by
  obtain ⟨a, ha, rfl⟩ := hj
  rcases h.row with rfl | ⟨g, cur, hp, hb, _⟩
  · cases ha
  · rw [hp] at ha; cases ha; exact hb.lt
theorem RRow.get {w : World} {s : Slc} {l : List UInt8} (h : RRow w s l) {i : Nat} {b : UInt8} (hi : l[i]? = some b) : ∃ g, s.p = some ⟨g, 0, none⟩ ∧ w.cell? ⟨g, i, none⟩ = some (.int .u8 (b.toNat : Int)) := by
  have hlt : i < l.length := (List.getElem?_eq_some_iff.1 hi).1
  rcases h.row with h2 | ⟨g, cur, hp, hb, hle, ht⟩
  · have := h.len
    rw [h2] at this
    simp only at this
    omega
  · refine ⟨g, hp, ?_⟩
    have h3 := bcs_get hi
    rw [← ht, List.getElem?_take, if_pos (by rw [h.len]; exact hlt)] at h3
    rw [hb.cell]
    simpa using h3
theorem RRow.set {w : World} {s : Slc} {l : List UInt8} (h : RRow w s l) {i : Nat} (hi : i < l.length) (b : UInt8) : ∃ g, s.p = some ⟨g, 0, none⟩ ∧ CanSt w ⟨g, i, none⟩ ∧
    RRow (w.setCell ⟨g, i, none⟩ (.int .u8 (b.toNat : Int))) s (l.set i b) ∧ Ext (· = g) w (w.setCell ⟨g, i, none⟩ (.int .u8 (b.toNat : Int))) := by
  rcases h.row with h2 | ⟨g, cur, hp, hb, hle, ht⟩
  · have := h.len
    rw [h2] at this
    simp only at this
    omega
  · have hlen := h.len
    refine ⟨g, hp, hb.can (by omega), ⟨by rw [List.length_set]; exact hlen, .inr ⟨g, _, hp, hb.set i _, by simpa using hle, ?_⟩⟩, (Ext.refl (· = g) w).set (.inl rfl) _⟩
    rw [Array.toList_setIfInBounds, List.take_set, ht]
    simp [bcs, List.map_set]
/-- '[]byte(s)'. -/
theorem bytes_str (w : World) (s : ByteArray) : ∃ r w', RunV Tryd.prog (convert 9 56 (.string s)) w (Slc.v r) w' ∧ RRow w' r s.data.toList ∧ Ext (fun _ => False) w w' ∧ ∀ j, r.own j → w.heap.size ≤ j := by
  refine ⟨⟨some ⟨w.heap.size, 0, none⟩, s.size, grownCap w s.size 0 5⟩, Go.Lib.bytesWorld w 5 s, Go.Lib.run_convert_string_bytes w _ _ 5 s und_string und_bytes und_byte, ⟨?_, .inr ⟨_, _, rfl, ⟨_, Go.Lib.bytesWorld_at_new w _ s, .inr rfl⟩, ?_, ?_⟩⟩, ?_, ?_⟩
  · exact Array.length_toList.symm
  · unfold Go.Lib.bytesCells
    rw [Array.size_append, Array.size_map]
    exact Nat.le_add_right _ _
  · unfold Go.Lib.bytesCells
    rw [Array.toList_append, Array.toList_map]
    exact List.take_left' (by rw [List.length_map]; exact Array.length_toList)
  · exact ⟨rfl, rfl, rfl, by rw [Go.Lib.bytesWorld_size]; omega, fun k hk _ => Go.Lib.bytesWorld_at_old w _ s k hk⟩
  · rintro j ⟨a, ha, rfl⟩
    cases ha
    exact Nat.le_refl _
/-- append(a, b...), b a row of bytes. -/
theorem app_rrow {w : World} {s s2 : Slc} {ty : TypeId} {l m : List UInt8} (own : BRow w s l) (h2 : RRow w s2 m) (hb : l.length + m.length ≤ 1099511627776) :
    Appended w s (l ++ m) (Builtin.append_ #[56, 56] ty #[Slc.v s, Slc.v s2]) := by
  refine app_any (.inl ⟨_, und_bytes⟩) (by rw [← h2.len]; rfl) (fun w' hw' => ?_) own hb
  rcases h2.row with rfl | ⟨g, cur, hp, hg, hle, htk⟩
  · have : m = [] := List.eq_nil_of_length_eq_zero (by have := h2.len; simpa using this.symm)
    subst this
    exact run_firstCells_none (P := Tryd.prog) (w := w') 1 0 0 0
  · have hget : ∀ (i : Nat) (b : UInt8), m[i]? = some b → ∃ g, s2.p = some ⟨g, 0, none⟩ ∧ w.cell? ⟨g, i, none⟩ = some (.int .u8 (b.toNat : Int)) := fun i b h => h2.get h
    obtain ⟨p, len, cap⟩ := s2
    simp only at hp
    subst hp
    refine run_firstCells_some w' 1 m.length ⟨g, 0, none⟩ len cap (bcs m) (by rw [bcs_len, Nat.mul_one]) fun j v hj => ?_
    simp only [bcs, List.getElem?_map, Option.map_eq_some_iff] at hj
    obtain ⟨b, hb1, rfl⟩ := hj
    obtain ⟨g', hg', h⟩ := hget _ _ hb1
    cases hg'
    simpa [World.cell?, hw'] using h
theorem info_byte_z : ∃ i, Tryd.prog.info? 5 = some i ∧ i.size = 1 ∧ i.bytes = 1 ∧ i.zero = some (.int .u8 0) := by
  have h : (match Tryd.prog.info? 5 with
    | some i => Nat.beq i.size 1 && Nat.beq i.bytes 1 && (match i.zero with
      | some (.int .u8 0) => true
      | _ => false)
    | none => false) = true := by kernel_rfl
  split at h
  · rename_i i hi
    simp only [Bool.and_eq_true] at h
    obtain ⟨⟨h1, h2⟩, h3⟩ := h
    split at h3
    · rename_i hz
      exact ⟨i, hi, Nat.eq_of_beq_eq_true h1, Nat.eq_of_beq_eq_true h2, hz⟩
    · cases h3
  · cases h
/-- 'make([]byte, n, c)'. -/
theorem bytes_make (w : World) (n c : Nat) (hnc : n ≤ c) (hc : c ≤ 1099511627776) : ∃ r w', RunV Tryd.prog (Instr.makeSlice 56 (.int .i64 (n : Int)) (.int .i64 (c : Int))) w (Slc.v r) w' ∧
    BRow w' r (List.replicate n 0) ∧ Ext (fun _ => False) w w' ∧ ∀ j, r.own j → w.heap.size ≤ j := by
  obtain ⟨i, hi, h1, h2, hz⟩ := info_byte_z
  have hr := run_make (P := Tryd.prog) w 56 5 i (.int .u8 0) und_bytes hi hz .i64 .i64 n c (by omega) (by omega) (by rw [h2]; omega) (by omega)
  simp only [Int.toNat_natCast, h1, Nat.mul_one] at hr
  refine ⟨⟨some ⟨w.heap.size, 0, none⟩, n, c⟩, _, hr, ⟨by rw [bcs_len]; simp, .inr ⟨_, _, rfl, Blk.new _ _ _, hnc, ?_, ?_⟩⟩, (Ext.refl _ w).alloc _, ?_⟩
  · rw [size_madeCells, Nat.mul_one]
  · show List.take (n * 1) (madeCells #[.int .u8 0] c).toList = _
    rw [toList_madeCells_one, Nat.mul_one, List.take_replicate, Nat.min_eq_left hnc]
    simp [bcs]
  · rintro j ⟨a, ha, rfl⟩
    cases ha
    exact Nat.le_refl _
end Sh
end Go.Proofs.YtpkadliieplblaaDoor

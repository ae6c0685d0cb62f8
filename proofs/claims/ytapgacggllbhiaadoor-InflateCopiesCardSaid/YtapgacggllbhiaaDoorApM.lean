/- append of a byte to a row that a conversion made. Conditions: sizes. -/
import Derived.Test.YtapgacggllbhiaaDoorMk
namespace Go.Proofs.YtapgacggllbhiaaDoor
namespace Sh
set_option linter.unusedVariables false
set_option linter.unusedSimpArgs false
theorem run_storeCells_atM {P : Program} (g o : Nat) (t : TypeId) (z : Nat × Nat) : ∀ (vs : List Value) (i : Nat) (cur : Array Value) (w : World), w.heap[g]? = some (.cells cur t z) → (z.1 = z.2 ∨ cur.size ≤ z.1) → o + i + vs.length ≤ cur.size → (∀ v ∈ vs, v.oneCell' = true) →
    (storeCells ⟨g, o, none⟩ vs i).run P w = .ok () (w.setRow g (cur.toList.take (o + i) ++ vs ++ cur.toList.drop (o + i + vs.length)).toArray)
  | [], i, cur, w, hg, _, _, _ => by
    simp only [storeCells, List.append_nil, List.length_nil, Nat.add_zero, List.take_append_drop, Array.toArray_toList]
    rw [setRow_self w g cur t z hg]
    rfl
  | v :: rest, i, cur, w, hg, hz, hl, h1 => by
    have hi : o + i < cur.size := by simp at hl; omega
    have hadd : (⟨g, o, none⟩ : Addr).add i = ⟨g, o + i, none⟩ := by unfold Addr.add; split <;> simp_all
    have hcell : w.cell? ⟨g, o + i, none⟩ = some cur[o + i] := by simp [World.cell?, hg, hi]
    have hfro : w.frozen? ⟨g, o + i, none⟩ = false := by
      obtain ⟨lo, hi'⟩ := z
      simp only at hz
      simp only [World.frozen?, hg, Bool.and_eq_false_iff, decide_eq_false_iff_not]
      omega
    have hst : (store ((⟨g, o, none⟩ : Addr).add i) v).run P w = .ok () (w.setRow g (cur.setIfInBounds (o + i) v)) := by
      rw [hadd, run_store P w _ v _ (h1 v (by simp)), hcell]
      simp [hfro, setCell_eq_setRow w g (o + i) cur t z v hg]
    have ih := run_storeCells_atM (P := P) g o t z rest (i + 1) (cur.setIfInBounds (o + i) v) (w.setRow g (cur.setIfInBounds (o + i) v)) (setRow_heap w g cur _ t _ hg) (by simpa using hz) (by simp at hl ⊢; omega) (fun x hx => h1 x (by simp [hx]))
    simp only [storeCells, Sem.run_bind, hst, Result.andThen_ok, ih, setRow_setRow]
    congr 3
    have e := list_seg_step cur.toList (o + i) v rest (by simp at hl ⊢; omega)
    simpa [Array.toList_setIfInBounds, Nat.add_assoc] using e
/-- A slice of bytes that owns its row, which may bear the mark of a conversion. -/
def MRow (w : World) (s : Slc) (l : List UInt8) : Prop :=
  s.len = l.length ∧ (s = ⟨none, 0, 0⟩ ∨ ∃ g cur, s.p = some ⟨g, 0, none⟩ ∧ BlkM w g cur 5 ∧ s.len ≤ s.cap ∧ cur.size = s.cap ∧ cur.toList.take s.len = bcs l)
section
variable {w w' : World} {s : Slc} {l : List UInt8}
theorem BRow.toM (h : BRow w s l) : MRow w s l := by
  refine ⟨h.len, ?_⟩
  rcases h.2 with h2 | ⟨g, cur, hp, hb, hle, hsz, ht⟩
  · exact .inl h2
  · exact .inr ⟨g, cur, hp, hb.toM, hle, by simpa using hsz, by simpa using ht⟩
theorem MRow.toR (h : MRow w s l) : RRow w s l := by
  refine ⟨h.1, ?_⟩
  rcases h.2 with h2 | ⟨g, cur, hp, hb, hle, hsz, ht⟩
  · exact .inl h2
  · exact .inr ⟨g, cur, hp, hb, by omega, ht⟩
theorem MRow.keep {F : Nat → Prop} (h : MRow w s l) (he : Ext F w w') (hn : ∀ j, s.own j → ¬ F j) : MRow w' s l := by
  refine ⟨h.1, ?_⟩
  rcases h.2 with h2 | ⟨g, cur, hp, hb, r⟩
  · exact .inl h2
  · exact .inr ⟨g, cur, hp, he.blkM hb (hn g ⟨_, hp, rfl⟩), r⟩
theorem MRow.own_lt (h : MRow w s l) {j : Nat} (hj : s.own j) : j < w.heap.size := h.toR.own_lt hj
/-- '[]byte(s)'. -/
theorem bytes_strM (w : World) (s : ByteArray) : ∃ r w', RunV Tryd.prog (convert 9 34 (.string s)) w (Slc.v r) w' ∧ MRow w' r s.data.toList ∧ Ext (fun _ => False) w w' ∧ ∀ j, r.own j → w.heap.size ≤ j := by
  have hge := grownCap_ge w s.size 0 5
  refine ⟨⟨some ⟨w.heap.size, 0, none⟩, s.size, grownCap w s.size 0 5⟩, Go.Lib.bytesWorld w 5 s, Go.Lib.run_convert_string_bytes w _ _ 5 s und_string und_bytes und_byte, ⟨?_, .inr ⟨_, _, rfl, ⟨_, Go.Lib.bytesWorld_at_new w _ s, .inr rfl⟩, hge, ?_, ?_⟩⟩, ?_, ?_⟩
  · exact Array.length_toList.symm
  · unfold Go.Lib.bytesCells
    rw [Array.size_append, Array.size_map, Array.size_replicate]
    show s.size + (grownCap w s.size 0 5 - s.size) = grownCap w s.size 0 5
    omega
  · unfold Go.Lib.bytesCells
    rw [Array.toList_append, Array.toList_map]
    exact List.take_left' (by rw [List.length_map]; exact Array.length_toList)
  · exact ⟨rfl, rfl, rfl, by rw [Go.Lib.bytesWorld_size]; omega, fun k hk _ => Go.Lib.bytesWorld_at_old w _ s k hk⟩
  · rintro j ⟨a, ha, rfl⟩
    cases ha
    exact Nat.le_refl _
/-- append(s, b). -/
theorem app_oneM {ty : TypeId} {gb : Nat} {b : UInt8} (own : MRow w s l) (hg : Blk w gb #[.int .u8 (b.toNat : Int)] 5) (hb : l.length + 1 ≤ 1099511627776) :
    ∃ s' w', RunV Tryd.prog (Builtin.append_ #[34, 34] ty #[Slc.v s, Slc.v ⟨some ⟨gb, 0, none⟩, 1, 1⟩]) w (Slc.v s') w' ∧ MRow w' s' (l ++ [b]) ∧ Ext s.own w w' ∧ ∀ j, s'.own j → s.own j ∨ w.heap.size ≤ j := by
  rcases own.2 with rfl | ⟨g, cur, hp, hB, hle, hsz, ht⟩
  · have hl : l = [] := List.eq_nil_of_length_eq_zero (by have := own.1; simpa using this.symm)
    subst hl
    obtain ⟨s', w', r1, r2, r3, r4⟩ := app_one (ty := ty) (BRow.nil w) hg hb
    exact ⟨s', w', r1, r2.toM, r3, r4⟩
  · obtain ⟨p, len, cap⟩ := s
    simp only at hp hle hsz ht
    subst hp
    have hlen : len = l.length := own.1
    obtain ⟨i, zv, hi, h1, h2, hz, hzs⟩ := info_byte
    have hnews : ∀ w' : World, w'.heap = w.heap → (Builtin.firstCells i.size 1 (Slc.v ⟨some ⟨gb, 0, none⟩, 1, 1⟩)).run Tryd.prog w' = .ok (bcs [b]).toArray w' := fun w' hw' => by
      rw [h1]
      refine run_firstCells_some w' 1 1 ⟨gb, 0, none⟩ 1 1 (bcs [b]) rfl fun j v hj => ?_
      have hj0 : j = 0 := by
        have := (List.getElem?_eq_some_iff.1 hj).1
        rw [bcs_len] at this
        simpa using this
      subst hj0
      have hv : Value.int .u8 (b.toNat : Int) = v := by simpa [bcs] using hj
      have hc := hg.cell 0
      rw [← hv]
      simpa [World.cell?, hw'] using hc
    by_cases hroom : len + 1 ≤ cap
    · obtain ⟨z, hh, hz'⟩ := hB
      have hst := run_storeCells_atM (P := Tryd.prog) g len 5 z (bcs [b]) 0 cur w hh (by rcases hz' with rfl | rfl <;> simp) (by rw [bcs_len]; simp; omega) (bcs_one _)
      simp only [Nat.add_zero] at hst
      have hc := hnews w rfl
      rw [h1] at hc
      have hbl : (bcs [b]).length = 1 := rfl
      rw [hbl] at hst
      refine ⟨⟨some ⟨g, 0, none⟩, len + 1, cap⟩, _, ?_, ⟨?_, .inr ⟨g, _, rfl, ⟨z, setRow_heap w g cur (cur.toList.take len ++ bcs [b] ++ cur.toList.drop (len + 1)).toArray _ _ hh, ?_⟩, hroom, ?_, ?_⟩⟩, ⟨rfl, rfl, rfl, by simp [World.setRow], fun k _ hk => setRow_other w g k _ (fun e => hk ⟨_, rfl, e.symm⟩)⟩, fun j hj => .inl hj⟩
      · have hl1 : Builtin.lenOf (Slc.v ⟨some ⟨gb, 0, none⟩, 1, 1⟩) = pure 1 := rfl
        have hc' : (Builtin.firstCells 1 1 (.slice (some ⟨gb, 0, none⟩) 1 1)).run Tryd.prog w = .ok (bcs [b]).toArray w := hc
        simp [RunV, Slc.v, Builtin.append_, run_underlying und_bytes, sizeOf, typeInfo, hi, h1, Builtin.lenOf, hroom, hc', hst]
      · show len + 1 = (l ++ [b]).length
        rw [List.length_append, hlen]
        rfl
      · have e : (cur.toList.take len ++ bcs [b] ++ cur.toList.drop (len + 1)).toArray.size = cur.size := by
          simp [bcs]
          omega
        rw [e]
        exact hz'
      · simp [bcs]
        omega
      · show List.take (len + 1) (cur.toList.take len ++ bcs [b] ++ cur.toList.drop (len + 1)) = _
        rw [ht, bcs_append]
        exact List.take_left' (by rw [List.length_append, bcs_len, bcs_len, hlen]; rfl)
    · have hge := grownCap_ge w (len + 1) cap 5
      have hfit : ¬ (281474976710656 < Builtin.nextslicecap (len + 1) cap * i.bytes) := by
        have := growslice_fits (need := len + 1) (old := cap) (bytes := i.bytes) (by omega) (by rw [h2]; omega)
        omega
      have hc := hnews w.drew rfl
      rw [h1] at hc
      have holds : ∀ j v, (bcs l)[j]? = some v → w.drew.cell? ((⟨g, 0, none⟩ : Addr).add j) = some v := fun j v hj => by
        have hjl : j < l.length := by have := (List.getElem?_eq_some_iff.1 hj).1; rwa [bcs_len] at this
        obtain ⟨g', hg', h⟩ := own.toR.get (List.getElem?_eq_getElem hjl)
        cases hg'
        rw [bcs_get (List.getElem?_eq_getElem hjl)] at hj
        cases hj
        simpa using h
      have hfo := run_firstCells_some (P := Tryd.prog) w.drew 1 len ⟨g, 0, none⟩ len cap (bcs l) (by rw [bcs_len, hlen, Nat.mul_one]) holds
      have hnew : BRow (w.drew.alloc (.cells ((bcs l).toArray ++ (bcs [b]).toArray ++ Builtin.zeroCells zv.cells (grownCap w (len + 1) cap 5 - (len + 1))) 5)) ⟨some ⟨w.heap.size, 0, none⟩, len + 1, grownCap w (len + 1) cap 5⟩ (l ++ [b]) := by
        refine ⟨?_, .inr ⟨_, _, rfl, Blk.new w.drew _ _, hge, ?_, ?_⟩⟩
        · rw [bcs_len, List.length_append, hlen]; simp
        · simp only [Array.size_append, List.size_toArray, size_zeroCells, hzs, bcs_len, h1]
          simp
          omega
        · simp only [Array.toList_append]
          rw [bcs_append]
          exact List.take_left' (by rw [List.length_append, bcs_len, bcs_len, hlen]; simp)
      refine ⟨_, _, ?_, hnew.toM, ((Ext.refl _ w).drew).alloc _, fun j hj => ?_⟩
      · have h6 : ¬ (9223372036854775807 < ((len : Int) + 1)) := by omega
        have hc' : (Builtin.firstCells 1 1 (.slice (some ⟨gb, 0, none⟩) 1 1)).run Tryd.prog w.drew = .ok (bcs [b]).toArray w.drew := hc
        simp [RunV, Slc.v, Builtin.append_, run_underlying und_bytes, sizeOf, typeInfo, zeroValue, hi, hz, h1, Builtin.lenOf, hroom, h6, hfit, Question.forced, hfo, hc', newRow, grownCap]
        have e : ∀ Z : Array Value, (bcs l).toArray ++ ((bcs [b]).toArray ++ Z) = (bcs l ++ bcs [b]).toArray ++ Z := fun Z => by apply Array.ext'; simp only [Array.toList_append]; rw [List.append_assoc]
        rw [e]
      · obtain ⟨a, ha, rfl⟩ := hj
        cases ha
        exact .inr (Nat.le_refl _)
/-- string(b). -/
theorem str_rrow (h : RRow w s l) : RunV Tryd.prog (convert 34 9 (Slc.v s)) w (.string ⟨l.toArray⟩) w := by
  rcases h.row with rfl | ⟨g, cur, hp, hg, hle, htk⟩
  · have : l = [] := List.eq_nil_of_length_eq_zero (by have := h.len; simpa using this.symm)
    subst this
    exact run_convert_bytes_nil w _ _ und_bytes und_byte 0 0 _ und_string
  · obtain ⟨p, len, cap⟩ := s
    simp only at hp
    subst hp
    have := run_convert_bytes_arg (P := Tryd.prog) w 34 5 und_bytes und_byte g 0 len cap (l.map fun b => (b.toNat : Int)) (by rw [List.length_map]; exact h.len.symm) (fun i hi => by
      have hil : i < l.length := by have := h.len; simp only at this; omega
      obtain ⟨g', hg', hc⟩ := h.get (List.getElem?_eq_getElem hil)
      cases hg'
      rw [Nat.zero_add, hc]
      simp [List.getD, hil]) 9 und_string
    rw [strOfNums_bytes] at this
    exact this
end
end Sh
end Go.Proofs.YtapgacggllbhiaaDoor

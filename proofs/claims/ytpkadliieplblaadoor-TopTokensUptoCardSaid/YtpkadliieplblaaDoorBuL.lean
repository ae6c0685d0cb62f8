/- strings.Builder on this program: writing. Conditions: sizes. -/
import Derived.Test.YtpkadliieplblaaDoorBuK
namespace Go.Proofs.YtpkadliieplblaaDoor
namespace Bui
open Sh
set_option linter.unusedVariables false
set_option linter.unusedSimpArgs false
set_option maxRecDepth 4000
set_option maxHeartbeats 2000000
/-- A builder in a block of its own that holds l. -/
structure Bu (w0 w : World) (b : Nat) (p : Option Addr) (sl : Slc) (l : List UInt8) : Prop where
  lo : w0.heap.size ≤ b
  ptr : p = none ∨ p = some ⟨b, 0, none⟩
  blk : Blk w b #[.pointer p, Slc.v sl] 60
  row : w.ownsRow w0.heap.size 5 1 (Slc.v sl) l.length (Lib.byteCells l)
/-- What a write changes. -/
structure Wr (w0 w w' : World) : Prop where
  ext : Ext (fun j => w0.heap.size ≤ j) w w'
  keep : ∀ j cs t, t ≠ 60 → t ≠ 5 → Blk w j cs t → Blk w' j cs t
theorem Wr.refl (w0 w : World) : Wr w0 w w := ⟨Ext.refl _ _, fun _ _ _ _ _ h => h⟩
theorem Wr.tr {w0 a b c : World} (h : Wr w0 a b) (k : Wr w0 b c) : Wr w0 a c := ⟨h.ext.tr k.ext, fun j cs t h1 h2 hb => k.keep j cs t h1 h2 (h.keep j cs t h1 h2 hb)⟩
theorem Wr.of {w0 a b : World} (h : Ext (fun _ => False) a b) : Wr w0 a b := ⟨h.mono fun _ _ e => e.elim, fun j cs t _ _ hb => h.blk hb id⟩
theorem Bu.keep {w0 w w' : World} {b : Nat} {p : Option Addr} {sl : Slc} {l : List UInt8} (h : Bu w0 w b p sl l) (he : Ext (fun _ => False) w w') : Bu w0 w' b p sl l :=
  ⟨h.lo, h.ptr, he.blk h.blk id, h.row.kept (row := none) ⟨he.os, he.tape, he.output, he.size, fun k hk _ => he.block k hk id⟩ (by
    cases ho : (Slc.v sl).ownBlock with
    | none => exact .inl rfl
    | some g => exact .inr (by simp))⟩
theorem c_copy {w0 w : World} {b : Nat} {p : Option Addr} {sl : Slc} {l : List UInt8} (h : Bu w0 w b p sl l) : C39 (some ⟨b, 0, none⟩) w fun w' => Bu w0 w' b (some ⟨b, 0, none⟩) sl l ∧ Wr w0 w w' := by
  have c0 : w.cell? ⟨b, 0, none⟩ = some (.pointer p) := h.blk.cell 0
  rcases h.ptr with rfl | rfl
  · refine (copy_fresh b w c0 (by have := h.blk; unfold Blk at this; simp [World.shape?, this]) (h.blk.frozen 0)).mono ?_
    rintro e w' ⟨rfl, rfl⟩
    refine ⟨rfl, ⟨h.lo, .inr rfl, h.blk.set 0 _, h.row.kept (row := some b) ⟨rfl, rfl, rfl, by simp [World.setCell], fun k _ hk => Go.RowKit.Below.heap_setCell _ _ _ _ (fun e => hk (by simp [e]))⟩ (.inr (Lib.ownBlock_ne h.row h.blk (by decide)))⟩, ⟨(Ext.refl _ w).set (.inl h.lo) _, fun j cs t h1 h2 hb => hb.set' fun e => ?_⟩⟩
    subst e
    exact h1 (blk_ty hb h.blk)
  · refine (copy_used b w c0).mono ?_
    rintro e w' ⟨rfl, rfl⟩
    exact ⟨rfl, h, Wr.refl _ _⟩
theorem bc_app (a b : List UInt8) : Lib.byteCells (a ++ b) = Lib.byteCells a ++ Lib.byteCells b := by simp [Lib.byteCells]
/-- The new row is laid into the builder. -/
theorem Bu.put {w0 w1 w2 : World} {b : Nat} {p : Option Addr} {sl : Slc} {l m : List UInt8} {v' : Value} (h : Bu w0 w1 b p sl l) (hown : w2.ownsRow w0.heap.size 5 1 v' m.length (Lib.byteCells m)) (hg : w1.grownBy w2 (Slc.v sl).ownBlock) :
    ∃ sl', v' = Slc.v sl' ∧ CanSt w2 ⟨b, 1, none⟩ ∧ Bu w0 (w2.setCell ⟨b, 1, none⟩ v') b p sl' m ∧ Wr w0 w1 (w2.setCell ⟨b, 1, none⟩ v') := by
  obtain ⟨sl', rfl⟩ : ∃ sl', v' = Slc.v sl' := by
    rcases hown.2 with ⟨rfl, _⟩ | ⟨g, cap, cur, rfl, _⟩
    · exact ⟨⟨none, 0, 0⟩, rfl⟩
    · exact ⟨⟨some ⟨g, 0, none⟩, _, cap⟩, rfl⟩
  have hb2 : Blk w2 b #[.pointer p, Slc.v sl] 60 := by
    have := h.blk
    unfold Blk at this ⊢
    rw [hg.block b h.blk.lt fun e => Lib.ownBlock_ne h.row h.blk (by decide) e.symm]
    exact this
  refine ⟨sl', rfl, hb2.can (Nat.lt_succ_self 1), ⟨h.lo, h.ptr, hb2.set 1 _, hown.kept (row := some b) ⟨rfl, rfl, rfl, by simp [World.setCell], fun k _ hk => Go.RowKit.Below.heap_setCell _ _ _ _ (fun e => hk (by simp [e]))⟩ (.inr (Lib.ownBlock_ne hown hb2 (by decide)))⟩, ?_, fun j cs t h1 h2 hb => ?_⟩
  · have e : Ext (fun j => w0.heap.size ≤ j) w1 w2 := ⟨hg.os, hg.tape, hg.output, hg.size, fun k hk hn => hg.block k hk fun e => hn (h.row.lt k e.symm).1⟩
    exact e.set (.inl h.lo) _
  · have hb3 : Blk w2 j cs t := by
      have := hb
      unfold Blk at this ⊢
      rw [hg.block j hb.lt fun e => Lib.ownBlock_ne h.row hb h2 e.symm]
      exact this
    refine hb3.set' fun e => ?_
    subst e
    exact h1 (blk_ty hb3 hb2)
attribute [local irreducible] Ld Nw Nn Lt LdS
theorem c_str {w0 w : World} {b : Nat} {p : Option Addr} {sl : Slc} {l : List UInt8} {s : ByteArray} (h : Bu w0 w b p sl l) (hs : l.length + s.size ≤ 1099511627776) : C25 (some ⟨b, 0, none⟩) s w fun _ _ w' => ∃ sl', Bu w0 w' b (some ⟨b, 0, none⟩) sl' (l ++ s.data.toList) ∧ Wr w0 w w' := by
  refine T25 _ _ _ _ ?_
  unfold S25
  refine (c_copy h).mono ?_
  rintro w1 ⟨h1, k1⟩
  refine Nn.of (Ld.of (x := sl) h1.blk rfl ?_)
  obtain ⟨i0, hi, hz0, hz1, hz2⟩ := info_parts Tryd.Builder_Extra_169.infoByte
  have hlt := h1.blk.lt
  have hlo := h1.lo
  obtain ⟨v', w2, hrun, hown, hgrow, _⟩ := Lib.run_append_own_string (P := Tryd.prog) w1 w0.heap.size 56 9 56 5 i0 und_bytes und_string hi hz0 hz1 hz2 (Slc.v sl) l.length (Lib.byteCells l) h1.row s (by unfold maxLen; omega) (by omega) (by omega)
  have hown' : w2.ownsRow w0.heap.size 5 1 v' (l ++ s.data.toList).length (Lib.byteCells (l ++ s.data.toList)) := by
    rw [bc_app, List.length_append, Array.length_toList]
    exact hown
  obtain ⟨sl', rfl, hc, hB, hW⟩ := h1.put hown' hgrow
  exact ⟨sl', w2, hrun, Nn.of ⟨hc, sl', hB, k1.tr hW⟩⟩
theorem c_byte {w0 w : World} {b : Nat} {p : Option Addr} {sl : Slc} {l : List UInt8} {c : UInt8} (h : Bu w0 w b p sl l) (hs : l.length + 1 ≤ 1099511627776) : C21 (some ⟨b, 0, none⟩) (c.toNat : Int) w fun _ w' => ∃ sl', Bu w0 w' b (some ⟨b, 0, none⟩) sl' (l ++ [c]) ∧ Wr w0 w w' := by
  refine T21 _ _ _ _ ?_
  unfold S21
  refine (c_copy h).mono ?_
  rintro w1 ⟨h1, k1⟩
  refine Nn.of (Ld.of (x := sl) h1.blk rfl (Nw.of ?_))
  obtain ⟨i0, hi, hz0, hz1, hz2⟩ := info_parts Tryd.Builder_Extra_169.infoByte
  have hlt := h1.blk.lt
  have hlo := h1.lo
  have e1 : Ext (fun _ => False) w1 (w1.alloc (.cells #[.int .u8 (c.toNat : Int)] 5)) := (Ext.refl _ _).alloc _
  have h2 := h1.keep e1
  have z1 := e1.size
  have hnb := Blk.new w1 #[.int .u8 (c.toNat : Int)] 5
  obtain ⟨v', w2, hrun, hown, hgrow, _⟩ := run_append_own (P := Tryd.prog) (w1.alloc (.cells #[.int .u8 (c.toNat : Int)] 5)) w0.heap.size 56 56 5 i0 (.int .u8 0) 1 1 und_bytes hi hz0 hz1 hz2 rfl (by decide) (Slc.v sl) l.length (Lib.byteCells l) h2.row ⟨w1.heap.size, 0, none⟩ 1 1 [.int .u8 (c.toNat : Int)] rfl (fun j u hj => by
    match j, hj with
    | 0, hj => rw [show ((⟨w1.heap.size, 0, none⟩ : Addr).add 0) = ⟨w1.heap.size, 0, none⟩ from rfl, hnb.cell]; exact hj) (fun u hu => by rw [List.mem_singleton.1 hu]; rfl) (by unfold maxLen; omega) (by omega) (by omega)
  have hown' : w2.ownsRow w0.heap.size 5 1 v' (l ++ [c]).length (Lib.byteCells (l ++ [c])) := by
    rw [bc_app, List.length_append]
    exact hown
  obtain ⟨sl', rfl, hc, hB, hW⟩ := h2.put hown' hgrow
  exact ⟨sl', w2, hrun, Nn.of ⟨hc, sl', hB, (k1.tr (Wr.of e1)).tr hW⟩⟩
theorem c_bstr {w0 w : World} {b : Nat} {p : Option Addr} {sl : Slc} {l : List UInt8} (h : Bu w0 w b p sl l) (h0 : w0.heap.size ≤ w.heap.size) : C29 (some ⟨b, 0, none⟩) w fun r w' => r = ⟨l.toArray⟩ ∧ Go.RowKit.Below w0.heap.size w w' := by
  have hI : Lib.IsBuilder 60 5 w0.heap.size b (Lib.byteCells l) w := by
    have hx : Lib.BuilderAt 60 5 w0.heap.size b (.pointer p) (Lib.byteCells l) w := ⟨h.lo, Slc.v sl, h.blk, by rw [Lib.byteCells_length]; exact h.row, Lib.ownBlock_ne h.row h.blk (by decide)⟩
    rcases h.ptr with rfl | rfl
    · exact .inl hx
    · exact .inr hx
  cases l with
  | nil =>
    refine (Tryd.Builder_String_empty w0.heap.size b w hI h0).mono ?_
    rintro e w' ⟨rfl, hb⟩
    exact ⟨_, rfl, rfl, hb⟩
  | cons x r =>
    refine (Tryd.Builder_String w0.heap.size b (x :: r) w hI (by simp)).mono ?_
    rintro e w' ⟨rfl, hb⟩
    exact ⟨_, rfl, rfl, hb⟩
theorem ext_below {w0 w w' : World} (h : Go.RowKit.Below w0.heap.size w w') : Ext (fun j => w0.heap.size ≤ j) w w' := ⟨h.os, h.tape, h.output, h.size, fun k hk hn => h.block k (by omega)⟩
end Bui
end Go.Proofs.YtpkadliieplblaaDoor

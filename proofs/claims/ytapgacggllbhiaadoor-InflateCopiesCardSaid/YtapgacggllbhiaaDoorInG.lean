/- Inflate: the program's bits, room, stored, copied, coded. Conditions: sizes. -/
import Derived.Test.YtapgacggllbhiaaDoorInF
import Derived.Test.YtapgacggllbhiaaDoorBy
import Derived.Test.YtapgacggllbhiaaDoorFnInf
namespace Go.Proofs.YtapgacggllbhiaaDoor
namespace Inf
open Sh Bit
set_option linter.unusedVariables false
set_option linter.unusedSimpArgs false
set_option maxRecDepth 4000
set_option maxHeartbeats 2000000
/-- The panic of this package. -/
def gup (e : Int) : Value := .iface 50 (.agg #[.int .i64 e])
/-- The cells of a decompression. -/
def fcells (rb : Nat) (o : Slc) (most : Nat) : Array Value := #[.pointer (at0 rb), Slc.v o, .int .i64 (most : Int)]
structure FS (w : World) (fb rb : Nat) (o : Slc) (s : ByteArray) (out : List UInt8) (p most : Nat) : Prop where
  blk : Blk w fb (fcells rb o most) 56
  rd : RB w rb s p
  row : BRow w o out
  ne : fb ≠ rb
  nf : ¬ o.own fb
  nr : ¬ o.own rb
  len : out.length ≤ most
  big : most ≤ 1048576
/-- What may change. -/
def XF (fb rb : Nat) (o : Slc) : Nat → Prop := fun j => j = fb ∨ j = rb ∨ o.own j
structure Mv (fb rb : Nat) (w w1 : World) (o o1 : Slc) : Prop where
  ext : Ext (XF fb rb o) w w1
  own : ∀ j, o1.own j → o.own j ∨ w.heap.size ≤ j
section
variable {w w1 w2 : World} {fb rb : Nat} {o o1 o2 : Slc} {s : ByteArray} {out : List UInt8} {p most : Nat}
theorem Mv.refl : Mv fb rb w w o o := ⟨Ext.refl _ _, fun j h => .inl h⟩
theorem Mv.of (h : Ext (XF fb rb o) w w1) : Mv fb rb w w1 o o := ⟨h, fun j h => .inl h⟩
theorem Mv.rd (h : Ext (· = rb) w w1) : Mv fb rb w w1 o o := .of (h.mono fun i _ e => .inr (.inl e))
theorem Mv.no (h : Ext (fun _ => False) w w1) : Mv fb rb w w1 o o := .of (h.mono fun i _ e => e.elim)
theorem Mv.tr (h : Mv fb rb w w1 o o1) (k : Mv fb rb w1 w2 o1 o2) : Mv fb rb w w2 o o2 := by
  refine ⟨h.ext.trans k.ext (fun _ h => h) fun i hi e => ?_, fun j hj => ?_⟩
  · rcases e with e | e | e
    · exact .inl e
    · exact .inr (.inl e)
    · rcases h.own i e with e | e
      · exact .inr (.inr e)
      · omega
  · have := h.ext.size
    rcases k.own j hj with e | e
    · exact h.own j e
    · exact .inr (by omega)
theorem FS.keep (h : FS w fb rb o s out p most) (he : Ext (fun _ => False) w w1) : FS w1 fb rb o s out p most :=
  ⟨he.blk h.blk (fun h => h), h.rd.keep he (fun h => h), h.row.keep he (fun _ _ h => h), h.ne, h.nf, h.nr, h.len, h.big⟩
theorem FS.read {q : Nat} (h : FS w fb rb o s out p most) (he : Ext (· = rb) w w1) (hr : RB w1 rb s q) : FS w1 fb rb o s out q most :=
  ⟨he.blk h.blk h.ne, hr, h.row.keep he (fun j hj e => h.nr (by have e : j = rb := e; rw [← e]; exact hj)), h.ne, h.nf, h.nr, h.len, h.big⟩
/-- Where a table may lie. -/
structure Sep (lo hi fb rb : Nat) (o : Slc) (w : World) : Prop where
  f : fb < lo ∨ hi ≤ fb
  r : rb < lo ∨ hi ≤ rb
  o : ∀ j, o.own j → j < lo ∨ hi ≤ j
  h : hi ≤ w.heap.size
theorem Sep.mv {lo hi : Nat} (h : Sep lo hi fb rb o w) (m : Mv fb rb w w1 o o1) : Sep lo hi fb rb o1 w1 := by
  have := m.ext.size
  have := h.h
  refine ⟨h.f, h.r, fun j hj => ?_, by omega⟩
  rcases m.own j hj with e | e
  · exact h.o j e
  · omega
theorem TB.mv {lo hi tb : Nat} {lens : List Int} (h : TB w lo hi tb lens) (k : Sep lo hi fb rb o w) (m : Ext (XF fb rb o) w w1) : TB w1 lo hi tb lens :=
  h.keep m fun j h1 h2 e => by
    have := k.f
    have := k.r
    rcases e with e | e | e
    · omega
    · omega
    · have := k.o j e; omega
attribute [local irreducible] Ld St Nw Nn Lt LdS
theorem c_need (b : Bool) (e : Int) (w : World) : C27 b e w (fun w1 => b = true ∧ w1 = w) fun v w1 => v = gup e ∧ b = false ∧ w1 = w := by
  refine T27 _ _ _ _ _ ?_
  unfold S27
  cases b
  · exact Br.t rfl ⟨rfl, rfl, rfl⟩
  · exact Br.f rfl ⟨rfl, rfl⟩
theorem c_mustI (x e : Int) (w : World) : C59 x e w (fun r w1 => e = 0 ∧ r = x ∧ w1 = w) fun v w1 => v = gup e ∧ e ≠ 0 ∧ w1 = w := by
  refine T59 _ _ _ _ _ ?_
  unfold S59
  exact (c_need (e == 0) e w).mono (fun w1 h => ⟨by simpa using h.1, rfl, h.2⟩) fun v w1 h => ⟨h.1, by simpa using h.2.1, h.2.2⟩
theorem c_mustS (x : ByteArray) (e : Int) (w : World) : C63 x e w (fun r w1 => e = 0 ∧ r = x ∧ w1 = w) fun v w1 => v = gup e ∧ e ≠ 0 ∧ w1 = w := by
  refine T63 _ _ _ _ _ ?_
  unfold S63
  exact (c_need (e == 0) e w).mono (fun w1 h => ⟨by simpa using h.1, rfl, h.2⟩) fun v w1 h => ⟨h.1, by simpa using h.2.1, h.2.2⟩
theorem c_mustT (x : Option Addr) (e : Int) (w : World) : C66 x e w (fun r w1 => e = 0 ∧ r = x ∧ w1 = w) fun v w1 => v = gup e ∧ e ≠ 0 ∧ w1 = w := by
  refine T66 _ _ _ _ _ ?_
  unfold S66
  exact (c_need (e == 0) e w).mono (fun w1 h => ⟨by simpa using h.1, rfl, h.2⟩) fun v w1 h => ⟨h.1, by simpa using h.2.1, h.2.2⟩
theorem c_bits {n : Nat} (hn : n ≤ 24) (h : FS w fb rb o s out p most) (hs : s.size ≤ 1000000) : C45 (some (⟨fb, 0, none⟩ : Addr)) (n : Int) w (fun v w1 => ∃ q, num s p n = .ok (v, q) ∧ FS w1 fb rb o s out q most ∧ Ext (· = rb) w w1) fun v w1 => num s p n = .error 4 ∧ v = gup 4 ∧ Ext (· = rb) w w1 := by
  refine T45 _ _ _ _ _ ?_
  unfold S45
  refine Nn.of (Ld.of h.blk (x := at0 rb) rfl ((c_lowN h.rd hs hn).mono ?_))
  rintro v e w1 ⟨he, q, hnum, hr⟩
  refine (c_mustI v e w1).mono ?_ ?_
  · rintro r _ ⟨rfl, rfl, rfl⟩
    rcases hnum with ⟨h1, _⟩ | ⟨_, h2⟩
    · exact ⟨q, h1, h.read he (hr rfl), he⟩
    · cases h2
  · rintro v _ ⟨rfl, h2, rfl⟩
    rcases hnum with ⟨_, h3⟩ | ⟨h1, rfl⟩
    · exact absurd h3 h2
    · exact ⟨h1, rfl, he⟩
theorem c_room {n : Nat} (hn : n ≤ 2000000) (h : FS w fb rb o s out p most) : C62 (some (⟨fb, 0, none⟩ : Addr)) (n : Int) w (fun w1 => out.length + n ≤ most ∧ w1 = w.drew) fun v w1 => v = gup 5 ∧ ¬ out.length + n ≤ most ∧ w1 = w.drew := by
  refine T62 _ _ _ _ _ ?_
  unfold S62
  have hb := h.blk.drew
  have hl := h.row.len
  have h1 := h.len
  have h2 := h.big
  refine Nn.of ?_
  simp only [add_lit, Nat.zero_add]
  refine Ld.of hb (o := 1) (x := o) rfl (Nn.of ?_)
  simp only [add_lit, Nat.zero_add]
  refine Ld.of hb (o := 2) (x := (most : Int)) rfl ?_
  rw [hl, i64_id (by omega)]
  refine (c_need _ 5 _).mono ?_ ?_
  · rintro w1 ⟨h3, rfl⟩
    have h3 := of_decide_eq_true h3
    exact ⟨by omega, rfl⟩
  · rintro v w1 ⟨rfl, h3, rfl⟩
    have h3 := of_decide_eq_false h3
    exact ⟨rfl, by omega, rfl⟩
/-- What a step of the decompression answers: R and the panic. -/
def OkR (fb rb : Nat) (w : World) (o : Slc) (s : ByteArray) (most : Nat) (r : Except Int (List UInt8 × Nat)) (w1 : World) : Prop := ∃ o1 out1 q, r = .ok (out1, q) ∧ FS w1 fb rb o1 s out1 q most ∧ Mv fb rb w w1 o o1
def ErR {α : Type} (fb rb : Nat) (w : World) (o : Slc) (r : Except Int α) (v : Value) (w1 : World) : Prop := ∃ e, r = .error e ∧ v = gup e ∧ Ext (XF fb rb o) w w1
theorem Mv.er (h : Mv fb rb w w1 o o1) (k : Ext (XF fb rb o1) w1 w2) : Ext (XF fb rb o) w w2 := (h.tr (.of k)).ext
/-- The output after more bytes. -/
theorem FS.put {out1 : List UInt8} (h : FS w fb rb o s out p most) (hl : out1.length ≤ most) {o1 : Slc} (he : Ext o.own w w1) (hr : BRow w1 o1 out1) (hn : ∀ j, o1.own j → o.own j ∨ w.heap.size ≤ j) {K : World → Prop} (k : ∀ w2, FS w2 fb rb o1 s out1 p most → Mv fb rb w w2 o o1 → K w2) : St w1 ⟨fb, 1, none⟩ (Slc.v o1) K := by
  have hb := he.blk h.blk h.nf
  have hfb := h.blk.lt
  have hrb := h.rd.lt
  refine (Hx.one (F := (· = fb)) hb).st 0 rfl (by show 1 < 3; omega) (.inl rfl) fun w2 H => k w2 ?_ ?_
  · have nf : ¬ o1.own fb := fun e => by
      rcases hn fb e with e | e
      · exact h.nf e
      · omega
    have nr : ¬ o1.own rb := fun e => by
      rcases hn rb e with e | e
      · exact h.nr e
      · omega
    exact ⟨H.get 0 rfl, (h.rd.keep he h.nr).keep H.ext (fun e => h.ne e.symm), hr.keep H.ext (fun j hj e => nf (by have e : j = fb := e; rw [← e]; exact hj)), h.ne, nf, nr, hl, h.big⟩
  · exact ⟨he.trans H.ext (fun i e => .inr (.inr e)) fun i hi e => .inl e, hn⟩
theorem c_stored (h : FS w fb rb o s out p most) (hs : s.size ≤ 1000000) : C46 (some (⟨fb, 0, none⟩ : Addr)) w (OkR fb rb w o s most (stored s p out most)) (ErR fb rb w o (stored s p out most)) := by
  refine T46 _ _ _ _ ?_
  unfold S46 stored
  refine Nn.of (Ld.of h.blk (x := at0 rb) rfl ?_)
  obtain ⟨hp, way, hw, hrd⟩ := h.rd
  refine (c_align hrd hp hs).mono ?_
  rintro w1 ⟨h1, e1⟩
  have H1 := h.read e1 ⟨by omega, 0, .inl rfl, h1⟩
  have m1 : Mv fb rb w w1 o o := .rd e1
  refine (c_bits (n := 16) (by omega) H1 hs).mono ?_ ?_
  rotate_left
  · rintro v w2 ⟨hn, rfl, e2⟩
    rw [hn]
    exact ⟨4, rfl, rfl, m1.er (Mv.rd e2).ext⟩
  rintro n w2 ⟨q, hn, H2, e2⟩
  rw [hn]
  have m2 := m1.tr (.rd e2)
  obtain ⟨n0, n1, rfl, n3⟩ := num_bd hn
  have h65 : (2 : Int) ^ 16 = 65536 := by decide
  dsimp only
  refine (c_bits (n := 16) (by omega) H2 hs).mono ?_ ?_
  rotate_left
  · rintro v w3 ⟨hm, rfl, e3⟩
    rw [hm]
    exact ⟨4, rfl, rfl, m2.er (Mv.rd e3).ext⟩
  rintro m w3 ⟨q3, hm, H3, e3⟩
  rw [hm]
  have m3 := m2.tr (.rd e3)
  obtain ⟨k0, k1, rfl, k3⟩ := num_bd hm
  dsimp only
  rw [i64_id (n := 65535 - n) (by omega)]
  refine (c_need _ 3 _).mono ?_ ?_
  rotate_left
  · rintro v _ ⟨rfl, h4, rfl⟩
    have h4 : m ≠ 65535 - n := by simpa using h4
    rw [if_pos h4]
    exact ⟨3, rfl, rfl, m3.ext⟩
  rintro w3 ⟨h4, rfl⟩
  have h4 : m = 65535 - n := by simpa using h4
  rw [if_neg (fun hh => hh h4)]
  obtain ⟨z, rfl⟩ := Int.eq_ofNat_of_zero_le n0
  simp only [Int.toNat_natCast]
  refine (c_room (n := z) (by omega) H3).mono ?_ ?_
  rotate_left
  · rintro v _ ⟨rfl, h5, rfl⟩
    rw [if_pos h5]
    exact ⟨5, rfl, rfl, m3.ext.drew⟩
  rintro _ ⟨h5, rfl⟩
  rw [if_neg (fun hh => hh h5)]
  have H4 := H3.keep (Ext.refl _ _).drew
  have H5 := H4.keep (Ext.refl _ _).drew
  have m5 : Mv fb rb w w3.drew.drew o o := (m3.tr (.no (Ext.refl _ _).drew)).tr (.no (Ext.refl _ _).drew)
  refine ⟨fun w' => Blk w' fb (fcells rb o most) 56, H5.blk, Nn.of ?_⟩
  simp only [add_lit, Nat.zero_add]
  refine LdS.of (fun w' h => h) (o := 1) (x := o) rfl (Nn.of (LdS.of (fun w' h => h) (o := 0) (x := at0 rb) rfl ?_))
  obtain ⟨hp5, way5, hw5, hrd5⟩ := H5.rd
  refine (c_raw hrd5 hp5 hs (z : Int)).mono ?_
  rintro v e w6 ⟨rfl, rfl, h6, e6⟩
  have hpos : ¬ ((z : Int) < 0 ∨ ((p + 7) / 8 * 8 + 16 + 16) % 8 ≠ 0) := by omega
  refine ⟨e6.blk H5.blk h.ne, ?_⟩
  refine (c_mustS _ _ _).mono ?_ ?_
  rotate_left
  · rintro v _ ⟨rfl, h7, rfl⟩
    by_cases hend : ((s.size - ((p + 7) / 8 * 8 + 16 + 16) / 8 : Nat) : Int) < (z : Int)
    · rw [rawR_end hpos hend]
      rw [if_pos (by omega)]
      exact ⟨4, rfl, rfl, (m5.tr (.rd e6)).ext⟩
    · rw [rawR_ok hpos hend] at h7
      exact absurd rfl h7
  rintro r _ ⟨h7, rfl, rfl⟩
  by_cases hend : ((s.size - ((p + 7) / 8 * 8 + 16 + 16) / 8 : Nat) : Int) < (z : Int)
  · rw [rawR_end hpos hend] at h7
    exact absurd h7 (by show ¬ (4 : Int) = 0; decide)
  rw [rawR_ok hpos hend] at h6 ⊢
  rw [if_neg (by omega)]
  simp only [Int.toNat_natCast] at h6 ⊢
  have H6 := H5.read e6 ⟨by omega, way5, hw5, h6⟩
  have hsz : (s.extract (((p + 7) / 8 * 8 + 16 + 16) / 8) (((p + 7) / 8 * 8 + 16 + 16) / 8 + z)).size = z := by rw [ByteArray.size_extract]; omega
  have hbig := h.big
  obtain ⟨o1, w7, hrun, hrow, hext, hown⟩ := app_str (ty := 34) H6.row (s.extract (((p + 7) / 8 * 8 + 16 + 16) / 8) (((p + 7) / 8 * 8 + 16 + 16) / 8 + z)) (by rw [hsz]; omega)
  refine ⟨H6.blk, o1, w7, hrun, Nn.of ?_⟩
  simp only [add_lit, Nat.zero_add]
  refine H6.put (by rw [List.length_append, ← size_list, hsz]; omega) hext hrow hown fun w8 H8 m8 => ?_
  exact ⟨o1, _, _, rfl, H8, (m5.tr (.rd e6)).tr m8⟩
end
end Inf
end Go.Proofs.YtapgacggllbhiaaDoor

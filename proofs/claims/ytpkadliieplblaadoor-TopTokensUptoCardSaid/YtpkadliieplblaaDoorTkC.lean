/- Numbers read from text: digits, Cut, Read. Conditions: sizes. -/
import Derived.Test.YtpkadliieplblaaDoorTkB
import Derived.Laws.RangeString
namespace Go.Proofs.YtpkadliieplblaaDoor
namespace Tk
open Sh Fix Go.Lib
set_option linter.unusedVariables false
set_option linter.unusedSimpArgs false
set_option maxRecDepth 8000
set_option maxHeartbeats 4000000
theorem byte_at {t : By} {i : Nat} (h : i < t.length) : t[i]? = some (t.getD i 0) := by
  rw [List.getD_eq_getElem?_getD, List.getElem?_eq_getElem h]
  rfl
theorem dec_at {s : ByteArray} {i : Nat} {c : UInt8} (h : (bl s)[i]? = some c) (hb : c.toNat < 128) : Utf8.decode s i = (c.toNat, 1) := by
  obtain ⟨hi, e⟩ := List.getElem?_eq_some_iff.1 h
  have hs : i < s.size := by rw [← bl_size]; exact hi
  have e : s[i]'hs = c := by
    rw [← e]
    rfl
  have := decode_ascii s i hs (by rw [e]; exact hb)
  rw [this, e]
/-- The next character of an iterator over bytes below 128. -/
theorem nx_asc {v : World} {s : ByteArray} {b i : Nat} {T : Int → Int → World → Prop} {N : Prop} (hit : v.heap[b]? = some (.stringIter s i)) (hall : ∀ c ∈ bl s, c.toNat < 128) (hi : i ≤ s.size)
    (h1 : ∀ c, (bl s)[i]? = some c → T (i : Int) (c.toNat : Int) (itW v b s (i + 1))) (h2 : i = s.size → N) : Nx v ⟨b, 0, none⟩ T N := by
  refine ⟨s, i, rfl, hit, Br.dec (fun q => ?_) fun q => h2 (by omega)⟩
  have hl : i < (bl s).length := by rw [bl_size]; exact q
  have hc := byte_at hl
  have := h1 _ hc
  rw [dec_at hc (hall _ (List.mem_of_getElem? hc))]
  exact this
theorem dig_step {x : Int} {c : UInt8} (h0 : 0 ≤ x) (h1 : x ≤ 1000000000000) (hc : isDig c) : IntKind.i64.wrap ((IntKind.i64.wrap (10 * x)) + (IntKind.i64.wrap (IntKind.i32.wrap ((c.toNat : Int) - 48)))) = 10 * x + ((c.toNat - 48 : Nat) : Int) := by
  have h2 := hc.1
  have h3 := hc.2
  rw [IntWalk.i32_in _ (by omega), i64_id (n := 10 * x) (by omega), i64_id (n := (c.toNat : Int) - 48) (by omega), i64_id (by omega)]
  omega
theorem dval_take {l : By} {i : Nat} {c : UInt8} (h : l[i]? = some c) : dval (l.take (i + 1)) = 10 * dval (l.take i) + (c.toNat - 48) := by
  rw [List.take_add_one, h, dval_app]
  show dval (l.take i) * 10 ^ 1 + ((c.toNat - 48) * 10 ^ 0 + 0) = _
  omega
theorem dval_take_le {l : By} (i : Nat) : dval (l.take i) ≤ dval l := by
  conv => rhs; rw [← List.take_append_drop i l, dval_app]
  have : dval (l.take i) * 1 ≤ dval (l.take i) * 10 ^ (l.drop i).length := Nat.mul_le_mul_left _ (Nat.pow_pos (by decide))
  omega
/-- Two cells of its own: a number and an error. -/
structure RS (w0 v : World) (bn be : Nat) (x e : Int) : Prop where
  n : Blk v bn #[.int .i64 x] 2
  e : Blk v be #[.int .i64 e] 23
  ne : bn ≠ be
  gn : w0.heap.size ≤ bn
  ge : w0.heap.size ≤ be
  ext : Ext (fun _ => False) w0 v
section
variable {w0 v v' w w' w1 : World} {s t : ByteArray} {bn be bi : Nat} {x e y : Int}
theorem RS.keep (h : RS w0 v bn be x e) (he : Ext (fun _ => False) v v') : RS w0 v' bn be x e := ⟨he.blk h.n id, he.blk h.e id, h.ne, h.gn, h.ge, h.ext.tr he⟩
theorem Ext.new' {F : Nat → Prop} {a b c : World} (h : Ext (fun _ => False) a b) (k : Ext F b c) (hF : ∀ j, F j → a.heap.size ≤ j) : Ext (fun _ => False) a c :=
  h.trans k (fun _ h => h) fun i hi hh => absurd hi (by have := hF i hh; omega)
theorem RS.other (h : RS w0 v bn be x e) {b : Nat} (he : Ext (· = b) v v') (h1 : bn ≠ b) (h2 : be ≠ b) (h3 : w0.heap.size ≤ b) : RS w0 v' bn be x e := ⟨he.blk h.n h1, he.blk h.e h2, h.ne, h.gn, h.ge, Ext.new' h.ext he fun j hj => by have hj : j = b := hj; omega⟩
attribute [local irreducible] Ld Sh.St Nw Nn Lt LdS
theorem RS.stn (h : RS w0 v bn be x e) {K : World → Prop} (y : Int) (k : ∀ v', RS w0 v' bn be y e → Ext (· = bn) v v' → K v') : Sh.St v ⟨bn, 0, none⟩ (.int .i64 y) K := by
  unfold Sh.St
  have hE : Ext (· = bn) v (v.setCell ⟨bn, 0, none⟩ (.int .i64 y)) := (Ext.refl (· = bn) v).set (.inl rfl) _
  refine ⟨h.n.can (by simp), k _ ⟨?_, hE.blk h.e (fun e => h.ne e.symm), h.ne, h.gn, h.ge, Ext.new' h.ext hE fun j hj => by have hj : j = bn := hj; have := h.gn; omega⟩ hE⟩
  exact h.n.set 0 _
theorem RS.ste (h : RS w0 v bn be x e) {K : World → Prop} (y : Int) (k : ∀ v', RS w0 v' bn be x y → Ext (· = be) v v' → K v') : Sh.St v ⟨be, 0, none⟩ (.int .i64 y) K := by
  unfold Sh.St
  have hE : Ext (· = be) v (v.setCell ⟨be, 0, none⟩ (.int .i64 y)) := (Ext.refl (· = be) v).set (.inl rfl) _
  refine ⟨h.e.can (by simp), k _ ⟨hE.blk h.n h.ne, ?_, h.ne, h.gn, h.ge, Ext.new' h.ext hE fun j hj => by have hj : j = be := hj; have := h.ge; omega⟩ hE⟩
  exact h.e.set 0 _
theorem it_keep {F : Nat → Prop} {p : ByteArray × Nat} (h : v.heap[bi]? = some (.stringIter p.1 p.2)) (he : Ext F v v') (hF : ¬ F bi) : v'.heap[bi]? = some (.stringIter p.1 p.2) := by
  rw [he.block bi (Array.getElem?_eq_some_iff.1 h).1 hF]
  exact h
theorem c_digs (hs : s.size ≤ 1099511627776) (w : World) : C93 s w fun r w1 => r = decide (trimS (bl s) tens = []) ∧ Ext (fun _ => False) w w1 := by
  refine T93 _ _ _ ?_
  unfold S93
  refine (c_trim10 s hs w).mono ?_
  rintro r w1 ⟨hr, e1⟩
  refine ⟨?_, e1⟩
  rw [eqL]
  show decide (bl r = []) = _
  rw [hr]
theorem ix_app {W F : By} (h : ∀ c ∈ W, c ≠ 46) : indexByte (W ++ 46 :: F) 46 = (W.length : Int) := by
  induction W with
  | nil => simp [indexByte]
  | cons c W ih =>
    have h1 := h c (List.mem_cons_self ..)
    have h2 := ih fun x hx => h x (List.mem_cons_of_mem _ hx)
    rw [List.cons_append]
    unfold indexByte
    rw [if_neg (by simpa using h1), h2, if_neg (by simp), List.length_cons]
    omega
theorem c_cut {W F : By} (h : bl s = W ++ 46 :: F) (hW : ∀ c ∈ W, c ≠ 46) (hs : s.size ≤ 1099511627776) (w : World) : C92 s (⟨#[46]⟩ : ByteArray) w fun r1 r2 r3 w1 => bl r1 = W ∧ bl r2 = F ∧ r3 = true ∧ Ext (fun _ => False) w w1 := by
  refine T92 _ _ _ _ ?_
  unfold S92
  refine T100 _ _ _ _ ?_
  unfold S100
  refine (c_ix1 s 46 w).mono ?_
  rintro r w1 ⟨hr, rfl⟩
  rw [h, ix_app hW] at hr
  subst hr
  have hl : s.size = W.length + 1 + F.length := by rw [← bl_size, h, List.length_append, List.length_cons]; omega
  have z : (⟨#[46]⟩ : ByteArray).size = 1 := rfl
  rw [z, i64_id (by omega)]
  have t1 : ((W.length : Int)).toNat = W.length := by omega
  have t2 : ((W.length : Int) + ((1 : Nat) : Int)).toNat = W.length + 1 := by omega
  rw [t1, t2, decide_eq_true (show ((W.length : Nat) : Int) ≥ 0 by omega)]
  refine Br.t rfl ⟨by omega, by omega, by omega, by omega, ?_, ?_, by trivial, (Ext.refl _ _).drew⟩
  · rw [bl_ext, h]
    simp
  · rw [bl_ext, h]
    have : List.drop (W.length + 1) (W ++ 46 :: F) = F := by
      rw [List.drop_append]
      simp
    rw [this]
    exact List.take_of_length_le (by omega)
/-- The end of Read, without an error. -/
theorem rd_end {n : Int} (h : RS w v bn be n 0) : CD91 (some (⟨bn, 0, none⟩ : Addr)) (some (⟨be, 0, none⟩ : Addr)) none v fun v6 => Ld v6 (⟨bn, 0, none⟩ : Addr) (Value.int .i64) fun (x7 : Int) => Ld v6 (⟨be, 0, none⟩ : Addr) (Value.int .i64) fun (x8 : Int) =>
    x7 = n ∧ x8 = 0 ∧ Ext (fun _ => False) w v6 := by
  refine T91_nil _ _ _ _ ?_
  unfold S91_nil
  exact Ld.of h.n rfl (Ld.of h.e rfl ⟨rfl, rfl, h.ext⟩)
theorem rd_J1 {n : Int} (hn : inW n = true) {vw2 : World} (h : RS w v w.heap.size vw2.heap.size (n.natAbs : Int) 0) : S76J1 w vw2 (decide (n < 0)) (fun r e w1 => r = n ∧ e = 0 ∧ Ext (fun _ => False) w w1) () v := by
  unfold S76J1
  have hw := inW_spec.1 hn
  have tail : ∀ (v1 : World), RS w v1 w.heap.size vw2.heap.size n 0 → Ld v1 (⟨w.heap.size, 0, none⟩ : Addr) (Value.int .i64) fun (x120 : Int) =>
      Nw v1 (.cells #[.int .i64 x120] 2) fun vw121 =>
      C94 (⟨some ⟨v1.heap.size, 0, none⟩, 1, 1⟩ : Slc) vw121 (fun vw122 =>
        Ld vw122 (⟨w.heap.size, 0, none⟩ : Addr) (Value.int .i64) fun (x123 : Int) =>
        Sh.St vw122 (⟨w.heap.size, 0, none⟩ : Addr) (.int .i64 x123) fun vw124 =>
        Sh.St vw124 (⟨vw2.heap.size, 0, none⟩ : Addr) (.int .i64 0) fun vw125 =>
        CD91 (some (⟨w.heap.size, 0, none⟩ : Addr)) (some (⟨vw2.heap.size, 0, none⟩ : Addr)) none vw125 fun vw126 =>
          Ld vw126 (⟨w.heap.size, 0, none⟩ : Addr) (Value.int .i64) fun (x127 : Int) =>
          Ld vw126 (⟨vw2.heap.size, 0, none⟩ : Addr) (Value.int .i64) fun (x128 : Int) =>
          x127 = n ∧ x128 = 0 ∧ Ext (fun _ => False) w vw126) (S76P w vw2 fun r e w1 => r = n ∧ e = 0 ∧ Ext (fun _ => False) w w1) := by
    intro v1 h1
    refine Ld.of h1.n rfl ((Hn.start v1).nw (cs := [.int .i64 n]) fun v2 H => ?_)
    have h2 := h1.keep H.ext
    refine (c_bounded (l := [n]) (IRow.of (H.get 0 rfl) rfl fun i hi => ?_) (by simp)).mono (fun w3 h3 => ?_) fun v w3 h3 => ?_
    · have : i = 0 := by simp at hi; omega
      subst this; rfl
    · obtain ⟨rfl, _⟩ := h3
      refine Ld.of h2.n rfl (h2.stn n fun v4 h4 _ => h4.ste 0 fun v5 h5 _ => rd_end h5)
    · obtain ⟨_, _, ha⟩ := h3
      exact absurd (fun i hi => by
        have : i = 0 := by simp at hi; omega
        subst this
        exact hn) ha
  refine Br.dec (fun q => ?_) fun q => ?_
  · refine Ld.of h.n rfl ?_
    rw [i64_id (n := 0 - (n.natAbs : Int)) (by omega), show 0 - (n.natAbs : Int) = n by omega]
    exact h.stn n fun v1 h1 _ => tail v1 h1
  · have : ((n.natAbs : Nat) : Int) = n := by omega
    rw [this] at h
    exact tail v h
end
end Tk
end Go.Proofs.YtpkadliieplblaaDoor

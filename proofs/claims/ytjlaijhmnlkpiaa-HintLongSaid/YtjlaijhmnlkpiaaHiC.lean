/- Hints: writing numbers; bounds of the reference. Conditions: sizes. -/
import Derived.Test.YtjlaijhmnlkpiaaHiB
import Derived.Test.YtjlaijhmnlkpiaaBitV
namespace Go.Proofs.Ytjlaijhmnlkpiaa
namespace Hint
open Sh Bit
set_option linter.unusedVariables false
set_option linter.unusedSimpArgs false
set_option maxRecDepth 4000
set_option maxHeartbeats 1000000
/-- A writer's bytes, used bits and order. -/
abbrev WS := (List UInt8 × Nat) × Int
def hiW (W : WS) (v n : Int) : WS := (putR W.2 W.1 v n 2).2
def alW (W : WS) : WS := ((W.1.1, 0), 0)
theorem hiW_inv {W : WS} (h : WInv W.2 W.1) (v n : Int) : WInv (hiW W v n).2 (hiW W v n).1 := h.put v n (by decide)
theorem hiW_len (W : WS) (v n : Int) : (hiW W v n).1.1.length ≤ W.1.1.length + 24 := putR_len _ _ _ _ _
theorem low16 {n : Int} (h : 0 ≤ n ∧ n ≤ 9223372036854775807) : iand .i64 n 65535 = n % 65536 := by
  obtain ⟨m, rfl⟩ := Int.eq_ofNat_of_zero_le h.1
  have := iand_nat (x := m) (y := 65535) (by omega) (by omega)
  rw [show (65535 : Int) = ((65535 : Nat) : Int) by rfl, this, show (65535 : Nat) = 2 ^ 16 - 1 by rfl, Nat.and_two_pow_sub_one_eq_mod]
  rfl
attribute [local irreducible] Ld St Nw Nn Lt LdS
/-- The writer of hint.Text, and its pen. -/
def TH (w0 w1 : World) (b pb : Nat) (W : WS) : Prop := ∃ s, WrB w1 b s W.2 W.1 ∧ WInv W.2 W.1 ∧ Ext (fun _ => False) w0 w1 ∧ w0.heap.size ≤ b ∧ (∀ j, s.own j → w0.heap.size ≤ j) ∧ Blk w1 pb #[.pointer (at1 b)] 96 ∧ w0.heap.size ≤ pb ∧ ¬ fp b s pb
def TR (w0 w1 : World) (b : Nat) (W : WS) : Prop := ∃ s, WrR w1 b s W.2 W.1 ∧ WInv W.2 W.1 ∧ Ext (fun _ => False) w0 w1 ∧ w0.heap.size ≤ b ∧ (∀ j, s.own j → w0.heap.size ≤ j)
section
variable {w0 w1 w2 : World} {b pb : Nat} {W : WS}
theorem TH.ext (h : TH w0 w1 b pb W) : Ext (fun _ => False) w0 w1 := by obtain ⟨s, _, _, h, _⟩ := h; exact h
theorem TR.ext (h : TR w0 w1 b W) : Ext (fun _ => False) w0 w1 := by obtain ⟨s, _, _, h, _⟩ := h; exact h
theorem TH.keep (h : TH w0 w1 b pb W) (he : Ext (fun _ => False) w1 w2) : TH w0 w2 b pb W := by
  obtain ⟨s, h1, h2, h3, h4, h5, h6, h7, h8⟩ := h
  exact ⟨s, h1.keep he fun _ _ h => h, h2, h3.tr he, h4, h5, he.blk h6 fun h => h, h7, h8⟩
theorem TR.keep (h : TR w0 w1 b W) (he : Ext (fun _ => False) w1 w2) : TR w0 w2 b W := by
  obtain ⟨s, h1, h2, h3, h4, h5⟩ := h
  exact ⟨s, h1.keep he fun _ _ h => h, h2, h3.tr he, h4, h5⟩
theorem TH.pen (h : TH w0 w1 b pb W) {K : Option Addr → Prop} (k : K (at1 b)) : Ld w1 (⟨pb, 0, none⟩ : Addr) Value.pointer K := by
  obtain ⟨s, _, _, _, _, _, h6, _⟩ := h
  exact Ld.of h6 rfl k
theorem ext_step {G : Nat → Prop} {s s' : Slc} (h : Ext (fun _ => False) w0 w1) (k : Wn w1 w2 b s s') (hb : w0.heap.size ≤ b) (hs : ∀ j, s.own j → w0.heap.size ≤ j) : Ext (fun _ => False) w0 w2 ∧ ∀ j, s'.own j → w0.heap.size ≤ j := by
  refine ⟨h.trans k.ext (fun _ h => h) fun i hi hg => ?_, fun j hj => ?_⟩
  · rcases hg with rfl | hg
    · omega
    · have := hs i hg; omega
  · rcases k.new j hj with h1 | h1
    · exact hs j h1
    · have := h.size; omega
theorem TH.hi (h : TH w0 w1 b pb W) (hl : W.1.1.length ≤ 1000000) (v n : Int) : C92 (at1 b) v n w1 fun _ w2 => TH w0 w2 b pb (hiW W v n) := by
  obtain ⟨s, h1, h2, h3, h4, h5, h6, h7, h8⟩ := h
  refine (c_whigh h1 h2 (by omega) v n).mono ?_
  rintro e w2 ⟨_, s', g1, g2⟩
  obtain ⟨k1, k2⟩ := ext_step (G := fun _ => False) h3 g2 h4 h5
  refine ⟨s', g1, hiW_inv h2 v n, k1, h4, k2, g2.ext.blk h6 h8, h7, fun hf => ?_⟩
  rcases hf with e | e
  · exact h8 (.inl e)
  · rcases g2.new _ e with h9 | h9
    · exact h8 (.inr h9)
    · have := h6.lt; omega
theorem TR.hi (h : TR w0 w1 b W) (hl : W.1.1.length ≤ 1000000) (v n : Int) : C73 (at1 b) v n w1 fun _ w2 => TR w0 w2 b (hiW W v n) := by
  obtain ⟨s, h1, h2, h3, h4, h5⟩ := h
  refine (r_whigh h1 h2 (by omega) v n).mono ?_
  rintro e w2 ⟨_, s', g1, g2⟩
  obtain ⟨k1, k2⟩ := ext_step (G := fun _ => False) h3 g2 h4 h5
  exact ⟨s', g1, hiW_inv h2 v n, k1, h4, k2⟩
theorem TH.al (h : TH w0 w1 b pb W) : C69 (at1 b) w1 fun w2 => TH w0 w2 b pb (alW W) := by
  obtain ⟨s, h1, h2, h3, h4, h5, h6, h7, h8⟩ := h
  refine (c_walign h1).mono ?_
  rintro w2 ⟨g1, g2⟩
  obtain ⟨k1, k2⟩ := ext_step (G := fun _ => False) h3 ((Wn.refl w1 b s).to g2) h4 h5
  exact ⟨s, g1, WInv.zero _, k1, h4, k2, g2.blk h6 fun e => h8 (.inl e), h7, h8⟩
theorem TR.al (h : TR w0 w1 b W) : C75 (at1 b) w1 fun w2 => TR w0 w2 b (alW W) := by
  obtain ⟨s, h1, h2, h3, h4, h5⟩ := h
  refine (r_walign h1).mono ?_
  rintro w2 ⟨g1, g2⟩
  obtain ⟨k1, k2⟩ := ext_step (G := fun _ => False) h3 ((Wn.refl w1 b s).to g2) h4 h5
  exact ⟨s, g1, WInv.zero _, k1, h4, k2⟩
theorem TH.num24 (h : TH w0 w1 b pb W) (hl : W.1.1.length ≤ 1000000) (v : Int) {n : Int} (hn : n ≤ 24) : C66 (at1 b) v n w1 fun w2 => TH w0 w2 b pb (hiW W v n) := by
  refine T66 _ _ _ _ _ ?_
  unfold S66
  refine (Hn.start w1).nw fun w2 H => ?_
  refine Br.f (decide_eq_false (by omega)) (H.ld 0 rfl rfl (((h.keep H.ext).hi hl v n).mono ?_))
  rintro e w3 h3
  exact h3
theorem TH.num32 (h : TH w0 w1 b pb W) (hl : W.1.1.length ≤ 999000) {v : Int} (hv : 0 ≤ v ∧ v ≤ 9223372036854775807) : C66 (at1 b) v 32 w1 fun w2 => TH w0 w2 b pb (hiW (hiW W (v / 65536) 16) (v % 65536) 16) := by
  refine T66 _ _ _ _ _ ?_
  unfold S66
  have p16 : (2 : Int) ^ 16 = 65536 := by decide
  rw [Int.fdiv_eq_ediv_of_nonneg _ (by decide), p16, low16 hv]
  refine (Hn.start w1).nw fun w2 H => Br.t (by decide) (H.ld 0 rfl rfl ?_)
  have hb := H.get 0 rfl
  have h2 := h.keep H.ext
  have hne : ∀ s, WrB w1 b s W.2 W.1 → ¬ fp b s w1.heap.size := fun s hs hf => by
    have := hs.lt _ hf; omega
  -- the pen of the call is a second pen
  have h2' : TH w0 w2 b w1.heap.size W := by
    obtain ⟨s, g1, g2, g3, g4, g5, g6, g7, g8⟩ := h
    exact ⟨s, g1.keep H.ext fun _ _ h => h, g2, g3.tr H.ext, g4, g5, hb, g3.size, hne s g1⟩
  have two : TH w0 w2 b pb W ∧ TH w0 w2 b w1.heap.size W := ⟨h2, h2'⟩
  have both : C66 (at1 b) (v / 65536) (IntKind.i64.wrap (32 - 16)) w2 fun w3 => TH w0 w3 b pb (hiW W (v / 65536) 16) ∧ Blk w3 w1.heap.size #[.pointer (at1 b)] 96 := by
    have e16 : IntKind.i64.wrap (32 - 16) = 16 := by decide
    rw [e16]
    refine T66 _ _ _ _ _ ?_
    unfold S66
    refine (Hn.start w2).nw fun w3 K => Br.f (by decide) (K.ld 0 rfl rfl ?_)
    obtain ⟨s, g1, g2, g3, g4, g5, g6, g7, g8⟩ := h2.keep K.ext
    refine (c_whigh g1 g2 (by omega) (v / 65536) 16).mono ?_
    rintro e w4 ⟨_, s', f1, f2⟩
    obtain ⟨k1, k2⟩ := ext_step (G := fun _ => False) g3 f2 g4 g5
    have hb3 := K.ext.blk hb fun h => h
    have hnf : ¬ fp b s w1.heap.size := by
      obtain ⟨t, t1, _⟩ := h
      have e1 := (t1.keep (H.ext.tr K.ext) fun _ _ h => h)
      intro hf
      have es : s = t := by
        have a1 := g1.blk
        have a2 := e1.blk
        rw [Blk, a1] at a2
        have a3 : s.p = t.p ∧ s.len = t.len ∧ s.cap = t.cap := by simpa [Slc.v] using a2
        clear a1 a2 e1 hf g1 g5 g8 f1 f2 k2 t1
        obtain ⟨s1, s2, s3⟩ := s
        obtain ⟨t1, t2, t3⟩ := t
        simp only at a3
        obtain ⟨rfl, rfl, rfl⟩ := a3
        rfl
      subst es
      exact hne s t1 hf
    refine ⟨⟨s', f1, hiW_inv g2 _ 16, k1, g4, k2, f2.ext.blk g6 g8, g7, fun hf => ?_⟩, f2.ext.blk hb3 hnf⟩
    rcases hf with e | e
    · exact g8 (.inl e)
    · rcases f2.new _ e with h9 | h9
      · exact g8 (.inr h9)
      · have := g6.lt; omega
  refine both.mono ?_
  rintro w3 ⟨h3, hb3⟩
  have hl2 := hiW_len W (v / 65536) 16
  exact Ld.of hb3 rfl ((h3.hi (by omega) _ _).mono fun _ _ h => h)
end
end Hint
end Go.Proofs.Ytjlaijhmnlkpiaa

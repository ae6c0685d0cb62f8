/- Hints: the walks of Text on both sides. Conditions: none. -/
import Derived.Test.YtjlaijhmnlkpiaaHiD
namespace Go.Proofs.Ytjlaijhmnlkpiaa
namespace Hint
open Sh Bit
set_option linter.unusedVariables false
set_option linter.unusedSimpArgs false
set_option maxRecDepth 4000
set_option maxHeartbeats 2000000
theorem textH_bad {L : List Hi} (h : whyH L ≠ 0) : ((⟨#[]⟩ : ByteArray), whyH L) = textH L := (if_neg h).symm
attribute [local irreducible] Ld St Nw Nn Lt LdS
section
variable {w : World} {s : Slc} {L : List Hi}
theorem r_bounds (h : HV w s L) (h0 : L.length ≠ 0) (h1 : L.length ≤ 2048) (c : Int) : C74 s c w fun a b w1 => a = lo L c L.length ∧ b = hi L c L.length ∧ Ext (fun _ => False) w w1 := by
  refine T74 _ _ _ _ ?_
  unfold S74
  rw [h.1]
  have hL0 : L[0]? = some L[0] := List.getElem?_eq_getElem (by omega)
  obtain ⟨a, ha, k0, k1, k2⟩ := h.drew.get hL0
  rw [ha]
  refine ⟨fun w1 => Ext (fun _ => False) w.drew w1, Ext.refl _ _, by omega, by omega, Nn.of ?_⟩
  refine LdS.mk (x := L[0].1) (fun w1 e => e.cell_same k0) (LdS.mk (x := L[0].2.1) (fun w1 e => e.cell_same k1) (LdS.mk (x := L[0].2.2) (fun w1 e => e.cell_same k2) ?_))
  refine ⟨by omega, by omega, Nn.of ?_⟩
  refine LdS.mk (x := L[0].1) (fun w1 e => e.cell_same k0) (LdS.mk (x := L[0].2.1) (fun w1 e => e.cell_same k1) (LdS.mk (x := L[0].2.2) (fun w1 e => e.cell_same k2) ?_))
  refine (r_part L[0] c _).mono ?_
  rintro x1 w1 ⟨rfl, he1⟩
  refine ⟨he1, (r_part L[0] c _).mono ?_⟩
  rintro x2 w2 ⟨rfl, he2⟩
  refine ⟨fun n st w1 => ∃ i : Nat, st = (lo L c i, hi L c i, (i : Int)) ∧ i ≤ L.length ∧ n = L.length - i ∧ Ext (fun _ => False) w w1, L.length, ⟨0, by simp only [lo, hi, getD_eq (show 0 < L.length by omega)]; rfl, by omega, rfl, (Ext.refl _ _).drew.tr (he1.tr he2)⟩, ?_⟩
  rintro n st w3 ⟨i, rfl, hi', rfl, he⟩
  unfold S74L1
  dsimp only
  rw [h.1]
  refine Br.dec (fun e => ⟨by omega, by omega, ?_⟩) fun e => ?_
  · have hlt : i < L.length := by omega
    have hLi : L[i]? = some L[i] := List.getElem?_eq_getElem hlt
    obtain ⟨a, ha, k0, k1, k2⟩ := (h.keep he).get hLi
    rw [ha, Int.toNat_natCast]
    refine Nn.of (Ld.mk k0 (Ld.mk k1 (Ld.mk k2 ?_)))
    refine (Hn.start w3).nw fun w4 H => ?_
    simp only [List.nil_append] at H
    iterate 3 (refine H.st 0 rfl (by simp) fun _ H => ?_; simp only [List.nil_append, List.cons_append, List.set_cons_zero, List.set_cons_succ, Nat.zero_add] at H)
    have H := H.drew
    have hS : ∀ w5, Hn w3 w5 [(w3.heap.size, hrow L[i], 70)] → Blk w5 w3.heap.size (hrow L[i]).toArray 70 := fun w5 h => h.get 0 rfl
    refine ⟨fun w5 => Hn w3 w5 [(w3.heap.size, hrow L[i], 70)], H, ?_⟩
    iterate 6 refine LdS.of hS rfl ?_
    refine (r_part L[i] c _).mono ?_
    rintro x1 w5 ⟨rfl, he5⟩
    refine ⟨H.keep he5, (r_part L[i] c _).mono ?_⟩
    rintro x2 w6 ⟨rfl, he6⟩
    refine ⟨L.length - (i + 1), by omega, i + 1, ?_, by omega, rfl, he.tr ((H.keep he5).keep he6).ext⟩
    rw [i64_id (by omega)]
    simp only [lo, hi, getD_eq hlt]
    rfl
  · have hi2 : i = L.length := by omega
    subst hi2
    exact ⟨rfl, rfl, he⟩
theorem c_cloneH (h : HV w s L) (h0 : L.length ≠ 0) (h1 : L.length ≤ 2048) : C64 s w fun r w1 => HV w1 r L ∧ Ext (fun _ => False) w w1 := by
  refine T64 _ _ _ ?_
  unfold S64
  have hL0 : L[0]? = some L[0] := List.getElem?_eq_getElem (by omega)
  obtain ⟨a, ha, _⟩ := h.get hL0
  refine Br_of (fun e => by rw [ha] at e; cases e) fun _ => ?_
  have e1 : Ext (fun _ => False) w (w.alloc (.cells #[] 70)) := (Ext.refl _ _).alloc _
  refine Nw.of ?_
  obtain ⟨x, w3, hrun, hrow, hl, he, ho⟩ := elHi.app (ty := 59) (Row.new w #[] 70 3 0 rfl) (h.keep e1).2 (fun v hv => by
    obtain ⟨o, _, hv⟩ := List.mem_flatMap.1 hv
    simp only [hrow, List.mem_cons, List.not_mem_nil, or_false] at hv
    rcases hv with rfl | rfl | rfl <;> rfl) (by have := h.1; show (0 + s.len) * 24 ≤ _; omega) (by have := h.1; show 0 + s.len ≤ _; omega)
  refine ⟨x, w3, hrun, ⟨?_, hrow.view⟩, ?_⟩
  · rw [hl, h.1]; simp
  · refine e1.trans he (fun _ h => h) fun i hi hg => ?_
    obtain ⟨a, ha, rfl⟩ := hg
    cases ha
    exact absurd hi (Nat.lt_irrefl _)
theorem c_text (h : HV w s L) : C38 s w fun r e w1 => (r, e) = textH L ∧ Ext (fun _ => False) w w1 := by
  refine T38 _ _ _ ?_
  unfold S38
  refine (c_check h).mono ?_
  rintro r _ ⟨rfl, rfl⟩
  refine Br.ne (fun h0 => ⟨textH_bad h0, Ext.refl _ _⟩) fun hz => ?_
  obtain ⟨h0, h1, hcol⟩ := whyH_zero hz
  refine (c_cloneH h h0 h1).mono ?_
  rintro s w0 ⟨h, e0⟩
  refine (c_new _).mono ?_
  rintro r w1 ⟨rfl, hw, he⟩
  refine (Hn.start w1).nw fun w2 H => ?_
  simp only [List.nil_append] at H
  iterate 1 (refine H.st 0 rfl (by simp) fun _ H => ?_; simp only [List.nil_append, List.cons_append, List.set_cons_zero, List.set_cons_succ, Nat.zero_add] at H)
  rename_i w3
  have hb1 : w0.heap.size < w1.heap.size := hw.blk.lt
  have hT : TH w0 w3 w0.heap.size w1.heap.size (([], 0), 0) := ⟨_, hw.keep H.ext fun _ _ h => h, WInv.zero _, he.tr H.ext, Nat.le_refl _, (fun j ⟨a, ha, _⟩ => by cases ha), H.get 0 rfl, by omega, fun hf => by
    rcases hf with e | ⟨a, ha, _⟩
    · omega
    · cases ha⟩
  clear hw
  refine hT.pen ?_
  rw [h.1]
  refine (hT.num32 (by show 0 ≤ 999000; omega) (by omega)).mono ?_
  intro w4 hT
  have hsp : ∀ {w5 : World} {W : WS}, TH w0 w5 w0.heap.size w1.heap.size W → ∀ c : Int, C67 s c w5 fun a b w6 => a = ll L c ∧ b = wd L c ∧ TH w0 w6 w0.heap.size w1.heap.size W := fun {w5 W} hT c => by
    have hb := lo_bd (hcol c) h0 L.length (Nat.le_refl _)
    refine (c_spread (h.keep hT.ext) h0 h1 c (by omega)).mono ?_
    rintro a b w6 ⟨rfl, rfl, he⟩
    exact ⟨rfl, rfl, hT.keep he⟩
  have hlo : ∀ c, 0 ≤ ll L c ∧ ll L c ≤ 1048576 := fun c => by
    have := lo_bd (hcol c) h0 L.length (Nat.le_refl _)
    exact ⟨this.1, this.2.1⟩
  have hwd : ∀ c, 0 ≤ wd L c ∧ wd L c ≤ 21 := fun c => wd_bd (hcol c) h0
  refine ⟨fun n st w5 => ∃ k : Nat, st = (k : Int) ∧ k ≤ 3 ∧ n = 3 - k ∧ TH w0 w5 w0.heap.size w1.heap.size (E1 L k), 3, ⟨0, rfl, by omega, rfl, hT⟩, ?_⟩
  rintro n st w5 ⟨k, rfl, hk, rfl, hT⟩
  unfold S38L4
  refine Br.dec (fun e => (hsp hT _).mono ?_) fun e => ?_
  · rintro a b w6 ⟨rfl, rfl, hT⟩
    refine hT.pen ((hT.num32 (by have := E1_len L k; omega) (by have := hlo (k : Int); omega)).mono ?_)
    intro w7 hT
    exact ⟨3 - (k + 1), by omega, k + 1, by rw [i64_id (by omega)]; rfl, by omega, rfl, hT⟩
  obtain rfl : k = 3 := by omega
  refine ⟨fun n st w5 => ∃ k : Nat, st = (k : Int) ∧ k ≤ 3 ∧ n = 3 - k ∧ TH w0 w5 w0.heap.size w1.heap.size (E2 L k), 3, ⟨0, rfl, by omega, rfl, hT⟩, ?_⟩
  rintro n st w5 ⟨k, rfl, hk, rfl, hT⟩
  unfold S38L3
  refine Br.dec (fun e => (hsp hT _).mono ?_) fun e => ?_
  · rintro a b w6 ⟨rfl, rfl, hT⟩
    refine hT.pen ((hT.num24 (by have := E2_len L k; omega) _ (by omega)).mono ?_)
    intro w7 hT
    exact ⟨3 - (k + 1), by omega, k + 1, by rw [i64_id (by omega)]; rfl, by omega, rfl, hT⟩
  obtain rfl : k = 3 := by omega
  refine ⟨fun n st w5 => ∃ k : Nat, st = (k : Int) ∧ k ≤ 3 ∧ n = 3 - k ∧ TH w0 w5 w0.heap.size w1.heap.size (A3 L k), 3, ⟨0, rfl, by omega, rfl, hT⟩, ?_⟩
  rintro n st w5 ⟨k, rfl, hk, rfl, hT⟩
  have hAl : ∀ k, k ≤ 3 → (A3 L k).1.1.length ≤ 150000 := fun k hk => by
    have := A3_len L k
    have h2 : 24 * L.length * k ≤ 24 * L.length * 3 := Nat.mul_le_mul_left _ hk
    omega
  unfold S38L2
  refine Br.dec (fun e => (hsp hT _).mono ?_) fun e => ?_
  · rintro a b w6 ⟨rfl, rfl, hT⟩
    refine ⟨fun n st w7 => ∃ i : Nat, st = (i : Int) ∧ i ≤ L.length ∧ n = L.length - i ∧ TH w0 w7 w0.heap.size w1.heap.size (Vc L (k : Int) (A3 L k) i), L.length, ⟨0, rfl, by omega, rfl, hT⟩, ?_⟩
    rintro n st w7 ⟨i, rfl, hi', rfl, hT⟩
    unfold S38L1
    rw [h.1]
    refine Br.dec (fun e2 => ?_) fun e2 => ?_
    · have hlt : i < L.length := by omega
      have hT := hT.keep (Ext.refl _ _).drew
      have hLi : L[i]? = some L[i] := List.getElem?_eq_getElem hlt
      obtain ⟨p, hp, hcell⟩ := (h.keep hT.ext).col hLi (k : Int)
      have hpc : w7.drew.cell? ⟨w1.heap.size, 0, none⟩ = some (.pointer (at1 w0.heap.size)) := by
        obtain ⟨_, _, _, _, _, _, h6, _⟩ := hT
        rw [h6.cell]; rfl
      refine ⟨fun w8 => w8 = w7.drew, rfl, LdS.mk (x := at1 w0.heap.size) (fun w8 e => by rw [e]; exact hpc) ⟨by omega, by omega, ?_⟩⟩
      rw [hp, Int.toNat_natCast]
      refine Nn.of ((c_cell _ _ _).mono ?_)
      rintro r _ ⟨rfl, rfl⟩
      refine ⟨rfl, Nn.of (LdS.mk (x := col L[i] (k : Int)) (fun w8 e => by rw [e]; exact hcell) ?_)⟩
      have hc := hcol (k : Int) i hlt
      rw [getD_eq hlt] at hc
      have hl := hlo (k : Int)
      rw [i64_id (by omega)]
      refine (hT.num24 (by have := Vc_len L (k : Int) (A3 L k) i; have := hAl k hk; omega) _ (by have := hwd (k : Int); omega)).mono ?_
      intro w8 hT
      refine ⟨L.length - (i + 1), by omega, i + 1, by rw [i64_id (by omega)]; rfl, by omega, rfl, ?_⟩
      show TH w0 w8 w0.heap.size w1.heap.size (hiW (Vc L (k : Int) (A3 L k) i) (col (L.getD i (0, 0, 0)) (k : Int) - ll L (k : Int)) (wd L (k : Int)))
      rw [getD_eq hlt]
      exact hT
    · obtain rfl : i = L.length := by omega
      refine hT.pen (hT.al.mono ?_)
      intro w8 hT
      exact ⟨3 - (k + 1), by omega, k + 1, by rw [i64_id (by omega)]; rfl, by omega, rfl, hT⟩
  obtain rfl : k = 3 := by omega
  refine hT.pen ?_
  have hl := hAl 3 (by omega)
  obtain ⟨sb, g1, g2, g3, _⟩ := hT
  refine (c_wtext g1 (by omega)).mono ?_
  rintro r w6 ⟨rfl, he⟩
  refine ⟨?_, e0.tr (g3.tr he)⟩
  unfold textH
  rw [if_pos hz]
end
end Hint
end Go.Proofs.Ytjlaijhmnlkpiaa

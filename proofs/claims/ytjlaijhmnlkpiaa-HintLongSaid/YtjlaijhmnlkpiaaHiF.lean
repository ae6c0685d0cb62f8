/- Hints: the reference's Text. Conditions: none. -/
import Derived.Test.YtjlaijhmnlkpiaaHiE
namespace Go.Proofs.Ytjlaijhmnlkpiaa
namespace Hint
open Sh Bit
set_option linter.unusedVariables false
set_option linter.unusedSimpArgs false
set_option maxRecDepth 4000
set_option maxHeartbeats 2000000
attribute [local irreducible] Ld St Nw Nn Lt LdS
section
variable {w : World} {s : Slc} {L : List Hi}
theorem r_text (h : HV w s L) : C39 s w fun r e w1 => (r, e) = textH L ∧ Ext (fun _ => False) w w1 := by
  refine T39 _ _ _ ?_
  unfold S39
  refine (r_why h).mono ?_
  rintro r w0 ⟨rfl, e0⟩
  refine Br.ne (fun h0 => ⟨textH_bad h0, e0⟩) fun hz => ?_
  obtain ⟨h0, h1, hcol⟩ := whyH_zero hz
  have h := h.keep e0
  refine (r_new _).mono ?_
  rintro r w3 ⟨rfl, hw, he⟩
  have hT : TR w0 w3 w0.heap.size (([], 0), 0) := ⟨_, hw, WInv.zero _, he, Nat.le_refl _, (fun j ⟨a, ha, _⟩ => by cases ha)⟩
  clear hw
  refine (hT.hi (by show 0 ≤ 1000000; omega) _ _).mono ?_
  intro _ w4 hT
  rw [h.1]
  refine (hT.hi (by have := hiW_len (([], 0), 0) 0 16; have h3 : (((([], 0), 0) : WS)).1.1.length = 0 := rfl; omega) _ _).mono ?_
  intro _ w4 hT
  have hT : TR w0 w4 w0.heap.size (E0 L) := by
    unfold E0
    rw [show ((L.length : Int) / 65536) = 0 by omega, show ((L.length : Int) % 65536) = (L.length : Int) by omega]
    exact hT
  have hlo : ∀ c, 0 ≤ ll L c ∧ ll L c ≤ 1048576 := fun c => by
    have := lo_bd (hcol c) h0 L.length (Nat.le_refl _)
    exact ⟨this.1, this.2.1⟩
  have hhi : ∀ c, 0 ≤ hi L c L.length - lo L c L.length ∧ hi L c L.length - lo L c L.length ≤ 1048576 := fun c => by
    have := lo_bd (hcol c) h0 L.length (Nat.le_refl _)
    omega
  have hwd : ∀ c, 0 ≤ wd L c ∧ wd L c ≤ 21 := fun c => wd_bd (hcol c) h0
  have hsp : ∀ {w5 : World} {W : WS}, TR w0 w5 w0.heap.size W → ∀ c : Int, C74 s c w5 fun a b w6 => a = ll L c ∧ b = hi L c L.length ∧ TR w0 w6 w0.heap.size W := fun {w5 W} hT c => by
    refine (r_bounds (h.keep hT.ext) h0 h1 c).mono ?_
    rintro a b w6 ⟨rfl, rfl, he⟩
    exact ⟨rfl, rfl, hT.keep he⟩
  have hnd : ∀ (c : Int) (w5 : World), C44 (IntKind.i64.wrap (hi L c L.length - ll L c)) w5 fun r w6 => r = wd L c ∧ w6 = w5 := fun c w5 => by
    have := hhi c
    have e : hi L c L.length - ll L c = hi L c L.length - lo L c L.length := rfl
    rw [e, i64_id (by omega)]
    exact r_need (by omega) w5
  refine ⟨fun n st w5 => ∃ k : Nat, st = (k : Int) ∧ k ≤ 3 ∧ n = 3 - k ∧ TR w0 w5 w0.heap.size (E1 L k), 3, ⟨0, rfl, by omega, rfl, hT⟩, ?_⟩
  rintro n st w5 ⟨k, rfl, hk, rfl, hT⟩
  unfold S39L4
  refine Br.dec (fun e => (hsp hT _).mono ?_) fun e => ?_
  · rintro a b w6 ⟨rfl, rfl, hT⟩
    have hl := hlo (k : Int)
    rw [show Int.tdiv (ll L (k : Int)) 65536 = ll L (k : Int) / 65536 from Int.tdiv_eq_ediv_of_nonneg hl.1, show Int.tmod (ll L (k : Int)) 65536 = ll L (k : Int) % 65536 from Int.tmod_eq_emod_of_nonneg hl.1, i64_id (n := ll L (k : Int) / 65536) (by omega)]
    have hE := E1_len L k
    refine (hT.hi (by omega) _ _).mono ?_
    intro _ w7 hT
    have hE2 := hiW_len (E1 L k) (ll L (k : Int) / 65536) 16
    refine (hT.hi (by omega) _ _).mono ?_
    intro _ w7 hT
    exact ⟨3 - (k + 1), by omega, k + 1, by rw [i64_id (by omega)]; rfl, by omega, rfl, hT⟩
  obtain rfl : k = 3 := by omega
  refine ⟨fun n st w5 => ∃ k : Nat, st = (k : Int) ∧ k ≤ 3 ∧ n = 3 - k ∧ TR w0 w5 w0.heap.size (E2 L k), 3, ⟨0, rfl, by omega, rfl, hT⟩, ?_⟩
  rintro n st w5 ⟨k, rfl, hk, rfl, hT⟩
  unfold S39L3
  refine Br.dec (fun e => (hsp hT _).mono ?_) fun e => ?_
  · rintro a b w6 ⟨rfl, rfl, hT⟩
    refine (hnd _ _).mono ?_
    rintro r _ ⟨rfl, rfl⟩
    refine (hT.hi (by have := E2_len L k; omega) _ _).mono ?_
    intro _ w7 hT
    exact ⟨3 - (k + 1), by omega, k + 1, by rw [i64_id (by omega)]; rfl, by omega, rfl, hT⟩
  obtain rfl : k = 3 := by omega
  refine ⟨fun n st w5 => ∃ k : Nat, st = (k : Int) ∧ k ≤ 3 ∧ n = 3 - k ∧ TR w0 w5 w0.heap.size (B3 L k), 3, ⟨0, rfl, by omega, rfl, hT⟩, ?_⟩
  rintro n st w5 ⟨k, rfl, hk, rfl, hT⟩
  have hAl : ∀ k, k ≤ 3 → (B3 L k).1.1.length ≤ 150000 := fun k hk => by
    have := B3_len L k
    have h2 : 24 * L.length * k ≤ 24 * L.length * 3 := Nat.mul_le_mul_left _ hk
    omega
  unfold S39L2
  refine Br.dec (fun e => (hsp hT _).mono ?_) fun e => ?_
  · rintro a b w6 ⟨rfl, rfl, hT⟩
    refine hT.al.mono ?_
    intro w7 hT
    refine ⟨fun n st w7 => ∃ i : Nat, st = (i : Int) ∧ i ≤ L.length ∧ n = L.length - i ∧ TR w0 w7 w0.heap.size (Vc L (k : Int) (alW (B3 L k)) i), L.length, ⟨0, rfl, by omega, rfl, hT⟩, ?_⟩
    rintro n st w7 ⟨i, rfl, hi', rfl, hT⟩
    unfold S39L1
    rw [h.1]
    refine Br.dec (fun e2 => ⟨by omega, by omega, ?_⟩) fun e2 => ?_
    · have hlt : i < L.length := by omega
      have hLi : L[i]? = some L[i] := List.getElem?_eq_getElem hlt
      obtain ⟨p, hp, k0, k1, k2⟩ := (h.keep hT.ext).get hLi
      rw [hp, Int.toNat_natCast]
      refine Nn.of (Ld.mk k0 (Ld.mk k1 (Ld.mk k2 ?_)))
      refine (Hn.start w7).nw fun w8 H => ?_
      simp only [List.nil_append] at H
      iterate 3 (refine H.st 0 rfl (by simp) fun _ H => ?_; simp only [List.nil_append, List.cons_append, List.set_cons_zero, List.set_cons_succ, Nat.zero_add] at H)
      iterate 3 refine H.ld 0 rfl rfl ?_
      refine (r_part L[i] (k : Int) _).mono ?_
      rintro x w9 ⟨rfl, he⟩
      have hT := hT.keep (H.keep he).ext
      refine (hnd _ _).mono ?_
      rintro r _ ⟨rfl, rfl⟩
      have hc := hcol (k : Int) i hlt
      rw [getD_eq hlt] at hc
      have hl := hlo (k : Int)
      rw [i64_id (n := col L[i] (k : Int) - ll L (k : Int)) (by omega)]
      refine (hT.hi (by have := Vc_len L (k : Int) (alW (B3 L k)) i; have := hAl k hk; have h4 : (alW (B3 L k)).1.1.length = (B3 L k).1.1.length := rfl; omega) _ _).mono ?_
      intro _ w8 hT
      refine ⟨L.length - (i + 1), by omega, i + 1, by rw [i64_id (by omega)]; rfl, by omega, rfl, ?_⟩
      show TR w0 w8 w0.heap.size (hiW (Vc L (k : Int) (alW (B3 L k)) i) (col (L.getD i (0, 0, 0)) (k : Int) - ll L (k : Int)) (wd L (k : Int)))
      rw [getD_eq hlt]
      exact hT
    · obtain rfl : i = L.length := by omega
      exact ⟨3 - (k + 1), by omega, k + 1, by rw [i64_id (by omega)]; rfl, by omega, rfl, hT⟩
  obtain rfl : k = 3 := by omega
  refine hT.al.mono ?_
  intro w6 hT
  obtain ⟨sb, g1, g2, g3, _⟩ := hT
  refine (r_wtext g1).mono ?_
  rintro r _ ⟨rfl, rfl⟩
  refine ⟨?_, e0.tr g3⟩
  unfold textH
  rw [if_pos hz, A3_B3]
end
end Hint
end Go.Proofs.Ytjlaijhmnlkpiaa

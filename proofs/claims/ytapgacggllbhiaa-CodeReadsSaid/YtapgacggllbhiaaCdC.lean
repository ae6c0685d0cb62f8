/- Codes: the sample results; laws CodeChecks and CodeLeast. Conditions: none. -/
import Derived.Test.YtapgacggllbhiaaCdB
import Derived.Test.YtapgacggllbhiaaCwY
import Derived.Test.YtapgacggllbhiaaFnLawK
namespace Go.Proofs.Ytapgacggllbhiaa
namespace Cd
open Sh Pm Inf Bit
set_option linter.unusedVariables false
set_option linter.unusedSimpArgs false
set_option maxRecDepth 4000
set_option maxHeartbeats 4000000
theorem v1 : chk [2, 1, 3, 3] = 0 := by decide +kernel
theorem v2 : codes [2, 1, 3, 3] = [2, 0, 6, 7] := by decide +kernel
theorem v3 : chk [1, 1, 1] = 13 := by decide +kernel
theorem v4 : chk [0, 1] = 0 := by decide +kernel
theorem v5 : chk [0, 2] = 13 := by decide +kernel
theorem v6 : chk [16] = 1 := by decide +kernel
theorem v7 : sym [2, 1, 3, 3] ⟨#[3]⟩ 0 = .ok (2, 3) := by
  show sgo [2, 1, 3, 3] ⟨#[3]⟩ (longest [2, 1, 3, 3]) 1 0 0 0 = _
  have : longest [2, 1, 3, 3] = 3 := by decide +kernel
  rw [this]
  rfl
theorem v8 : (cw [2, 1, 3, 3] ([], 0) 2).1 = [3] := by decide +kernel
theorem v9 : srt [5, 0, 1, 1] = [1, 1, 5] := (srt_eq (by decide) (by decide)).symm
theorem v10 : least [5, 0, 1, 1] 15 = 9 := by
  unfold least
  rw [v9, if_neg (by decide)]
  have r1 : rI [1, 1, 5] 1 = [1, 1, 2, 5] := by simp [rI, prI, List.merge, leI]
  have r2 : rI [1, 1, 5] 2 = [1, 1, 2, 5, 7] := by
    show List.merge [1, 1, 5] (prI (rI [1, 1, 5] 1)) leI = _
    rw [r1]
    simp [prI, List.merge, leI]
  have r3 : ∀ k, rI [1, 1, 5] (k + 2) = [1, 1, 2, 5, 7] := fun k => by
    induction k with
    | zero => exact r2
    | succ k ih =>
      show List.merge [1, 1, 5] (prI (rI [1, 1, 5] (k + 2))) leI = _
      rw [ih]
      simp [prI, List.merge, leI]
  have : rI [1, 1, 5] (15 - 1) = [1, 1, 2, 5, 7] := r3 12
  rw [this]
  rfl
theorem v11 : why [5, 0, 1, 1] 15 = 0 := by
  unfold why
  rw [v9]
  decide
attribute [local irreducible] Ld St Nw Nn Lt LdS
theorem beq_yes {x y : Int} (h : x = y) : (x == y) = true := by simpa using h
section
variable {w w1 : World} {s s2 : Slc} {l c : List Int}
/-- A list that is written out. -/
theorem lit {l : List Int} {n : Nat} {K : World → Prop} (w : World) (hn : n = l.length) (k : ∀ w1, IV w1 ⟨some ⟨w.heap.size, 0, none⟩, n, n⟩ l → Ext (fun _ => False) w w1 → K w1) : Nw w (.cells (ints l).toArray 3) K := by
  refine (Hn.start w).nw' fun w1 H e => ?_
  exact k w1 (IV.blk (H.get 0 rfl) hn) e
theorem c_lives (w : World) : C8 w (fun r w1 => r = true ∧ Ext (fun _ => False) w w1) fun _ _ => False := by
  refine T8 _ _ _ ?_
  unfold S8
  refine lit (l := [2, 1, 3, 3]) w rfl fun w1 i1 e1 => ?_
  refine (c_codes i1).mono ?_
  rintro r e w2 ⟨rfl, e2, hcodes⟩
  obtain ⟨hcodes, _⟩ := hcodes v1
  rw [v2] at hcodes
  refine lit (l := [5, 0, 1, 1]) w2 rfl fun w3 i3 e3 => ?_
  refine (Srt.c_lengths (most := 15) i3).mono ?_ fun _ _ h => h
  rintro rl el w4 ⟨rfl, e4, _, hl⟩
  obtain ⟨l, il, hlr⟩ := hl v11
  rw [show (15 : Int).toNat = 15 by rfl] at hlr
  refine lit (l := [2, 1, 3, 3]) w4 rfl fun w5 i5 e5 => ?_
  refine (c_new i5).mono ?_
  rintro rt et w6 ⟨rfl, e6, _, ht⟩
  obtain ⟨tb, rfl, htb⟩ := ht v1
  refine (Bit.c_new w6).mono ?_
  rintro rw7 w7 ⟨rfl, hw, e7⟩
  refine (c_write (htb.keep e7 fun _ _ _ h => h) v1 hw (WInv.zero _) (.inl rfl) (by simp) (fun j hj => .inr (by
    rcases hj with hj | ⟨a, ha, _⟩
    · omega
    · cases ha)) (g := 2) (n := 3) (by decide) rfl (by decide)).mono ?_
  rintro ew w8 ⟨rfl, ws, hw8, hn8⟩
  refine (Bit.c_from w8 ⟨#[3]⟩).mono ?_
  rintro rr w9 ⟨rfl, hr, e9⟩
  have hsz7 := e7.size
  have hsz8 := hn8.ext.size
  have ht9 : TB w9 w5.heap.size w6.heap.size tb [2, 1, 3, 3] := ((htb.keep e7 fun _ _ _ h => h).keep hn8.ext (by
    intro j h1 h2 hf
    rcases hf with hf | ⟨a, ha, _⟩
    · omega
    · cases ha)).keep e9 fun _ _ _ h => h
  refine (c_tread (p := 0) (b := ⟨#[3]⟩) ht9 (chk_lok v1) (rb := w8.heap.size) ⟨Nat.zero_le _, 0, .inl rfl, hr⟩ (by decide) (by omega)).mono ?_
  rintro v e w10 ⟨e10, q, htr, _⟩
  rcases htr with ⟨g, hg, rfl, rfl⟩ | ⟨herr, _⟩
  rotate_left
  · rw [v7] at herr; cases herr
  rw [v7] at hg
  cases hg
  refine lit (l := [1, 1, 1]) w10 rfl fun w11 i11 e11 => ?_
  refine (c_new i11).mono ?_
  rintro rn en w12 ⟨rfl, e12, hnone, _⟩
  have := hnone (by rw [v3]; decide)
  subst this
  rw [v1, v3, v11]
  have E34 : Ext (fun _ => False) w3 w4 := e4
  have A1 : Ext (fun _ => False) w w2 := e1.tr e2
  have A2 : Ext (fun _ => False) w w4 := A1.tr (e3.tr e4)
  have A6 : Ext (fun _ => False) w w6 := A2.tr (e5.tr e6)
  have A7 := A6.tr e7
  have s6 := A6.size
  have B8 : Ext (fun j => w.heap.size ≤ j) w7 w8 := hn8.ext.mono fun j _ hj => by
    rcases hj with hj | ⟨a, ha, _⟩
    · omega
    · cases ha
  have A8 := Srt.Ext.new A7 B8 fun j hj => hj
  have A9 := A8.tr e9
  have s8 := A8.size
  have A10 := Srt.Ext.new A9 e10 fun j hj => by subst hj; omega
  have A12 := A10.tr (e11.tr e12)
  refine Srt.Br.t rfl (lit (l := [2, 0, 6, 7]) w12 rfl fun w13 i13 e13 => ?_)
  -- the codes and the lengths lie where they lay
  have G : ∀ {a b : World}, Ext (fun _ => False) w b → True := fun _ => trivial
  have keepc : IV w7 r [2, 0, 6, 7] ∧ IV w7 rl l := ⟨((((hcodes.keep e3).keep e4).keep e5).keep e6).keep e7, ((il.keep e5).keep e6).keep e7⟩
  have up8 : ∀ j, (j = w6.heap.size ∨ (⟨none, 0, 0⟩ : Slc).own j) → w6.heap.size ≤ j := fun j hj => by
    rcases hj with hj | ⟨a, ha, _⟩
    · omega
    · cases ha
  have own_small : ∀ {s : Slc} {l : List Int} {w' : World}, IV w' s l → l ≠ [] → ∀ j, s.own j → j < w'.heap.size := fun h hn j hj => own_lt' h hn hj
  have hl4 : l ≠ [] := by
    intro hh
    have := hlr.len
    rw [hh] at this
    cases this
  have c8 : IV w8 r [2, 0, 6, 7] := keepc.1.keepF hn8.ext fun j hj hf => by
    have h1 := own_small hcodes (by decide) j hj
    have h2 := up8 j hf
    have h3 := e3.size
    have h4 := e4.size
    have h5 := e5.size
    have h6 := e6.size
    omega
  have l8 : IV w8 rl l := keepc.2.keepF hn8.ext fun j hj hf => by
    have h1 := own_small il hl4 j hj
    have h2 := up8 j hf
    have h5 := e5.size
    have h6 := e6.size
    omega
  have c10 : IV w10 r [2, 0, 6, 7] := (c8.keep e9).keepF e10 fun j hj hf => by
    have h1 := own_small c8 (by decide) j hj
    have hf : j = w8.heap.size := hf
    omega
  have l10 : IV w10 rl l := (l8.keep e9).keepF e10 fun j hj hf => by
    have h1 := own_small l8 hl4 j hj
    have hf : j = w8.heap.size := hf
    omega
  have c13 := ((c10.keep e11).keep e12).keep e13
  have l13 := ((l10.keep e11).keep e12).keep e13
  have A13 := A12.tr e13
  refine (r_same c13 i13 (by decide)).mono ?_
  rintro b w14 ⟨rfl, e14⟩
  have hll := l13.1
  rw [hlr.len] at hll
  have hl1 : l.getD 1 0 = 0 := ((hlr.most 1 (by decide)).2.2).2 rfl
  obtain ⟨a, ha, hcell⟩ := (l13.keep e14).get (i := 1) (by rw [hlr.len]; decide)
  rw [hl1] at hcell
  rw [ha]
  refine Srt.Br.t rfl (Srt.Br.t rfl (Srt.Br.t (beq_yes (by rw [hll]; rfl)) ⟨by decide, by rw [hll]; decide, Nn.of (Ld.mk hcell (Srt.Br.t rfl ?_))⟩))
  refine lit (l := [5, 0, 1, 1]) w14 rfl fun w15 i15 e15 => ?_
  refine (c_cost ((l13.keep e14).keep e15) i15 (by rw [hlr.len]; decide)).mono ?_
  rintro rc w16 ⟨rfl, e16⟩
  have hcost : costF l [5, 0, 1, 1] (min l.length ([5, 0, 1, 1] : List Int).length) = 9 := by
    rw [hlr.len]
    exact hlr.cost.trans v10
  rw [hcost]
  have A16 := A13.tr (e14.tr (e15.tr e16))
  have hw16 : WrB w16 w6.heap.size ws 1 (cw [2, 1, 3, 3] ([], 0) 2) := by
    have h1 := hw8.keep e9 fun _ _ h => h
    have h2 := h1.keep e10 fun j hj hf => by
      have := hw8.lt j hj
      have hf : j = w8.heap.size := hf
      omega
    exact ((((((h2.keep e11 fun _ _ h => h).keep e12 fun _ _ h => h).keep e13 fun _ _ h => h).keep e14 fun _ _ h => h).keep e15 fun _ _ h => h).keep e16 fun _ _ h => h)
  refine Srt.Br.t rfl (Srt.Br.t rfl (Srt.Br.t rfl ?_))
  refine (c_wtext hw16 (by rw [v8]; decide)).mono ?_
  rintro rt w17 ⟨rfl, e17⟩
  rw [v8]
  have A17 := A16.tr e17
  refine Srt.Br.t (by simp) (Srt.Br.t rfl (Srt.Br.t rfl (Srt.Br.t rfl (Srt.Br.t rfl ?_))))
  refine lit (l := [0, 1]) w17 rfl fun w18 i18 e18 => ?_
  refine (c_chk i18).mono ?_
  rintro r w19 ⟨rfl, e19⟩
  rw [v4]
  refine Srt.Br.t rfl (lit (l := [0, 2]) w19 rfl fun w20 i20 e20 => ?_)
  refine (c_chk i20).mono ?_
  rintro r w21 ⟨rfl, e21⟩
  rw [v5]
  refine Srt.Br.t rfl (lit (l := [16]) w21 rfl fun w22 i22 e22 => ?_)
  refine (c_chk i22).mono ?_
  rintro r w23 ⟨rfl, e23⟩
  rw [v6]
  exact ⟨rfl, A17.tr (e18.tr (e19.tr (e20.tr (e21.tr (e22.tr e23)))))⟩
theorem c_codes_no (h : IV w s l) (hn : chk l ≠ 0) : C9 s w fun r e w1 => e = chk l ∧ Ext (fun _ => False) w w1 ∧ IV w1 r [] := by
  refine T9 _ _ _ ?_
  unfold S9
  refine (c_chk h).mono ?_
  rintro r w1 ⟨rfl, he1⟩
  exact Br.ne (fun q => ⟨rfl, he1, IV.nil _⟩) fun q => absurd q hn
theorem checks_law (h : IV w s l) (k : IV w s2 c) : C3 s s2 w (fun r w1 => r = true ∧ Ext (fun _ => False) w w1) fun _ _ => False := by
  refine T3 _ _ _ _ _ ?_
  unfold S3
  have h1 := h.1
  have k1 := k.1
  have lv : ∀ {w1 : World}, Ext (fun _ => False) w w1 → C8 w1 (fun r w2 => r = true ∧ Ext (fun _ => False) w w2) fun _ _ => False := fun he => (c_lives _).mono (fun r w2 ⟨hr, h2⟩ => ⟨hr, he.tr h2⟩) fun _ _ h => h
  refine Br.dec (fun q => lv (Ext.refl _ _)) fun q => Br.dec (fun q2 => lv (Ext.refl _ _)) fun q2 => ?_
  by_cases hchk : chk l = 0
  · refine (c_codes h).mono ?_
    rintro r e w1 ⟨rfl, e1, hc1⟩
    refine (r_codes (h.keep e1)).mono ?_
    rintro r2 e w2 ⟨rfl, e2, hn2, hc2⟩
    refine (c_new ((h.keep e1).keep e2)).mono ?_
    rintro rt e w3 ⟨rfl, e3, hn3, hc3⟩
    have E3 := e1.tr (e2.tr e3)
    obtain ⟨i1, _⟩ := hc1 hchk
    have i2 := hc2 hchk
    refine (r_same ((i1.keep e2).keep e3) (i2.keep e3) (by
      have := (chk_lok hchk).len
      unfold codes
      simp
      omega)).mono ?_
    rintro b w4 ⟨rfl, e4⟩
    obtain ⟨tb, rfl, _⟩ := hc3 hchk
    have E4 := E3.tr e4
    refine Srt.Br.t rfl (Srt.Br.t (by simp) (Srt.Br.t (by simp) (Srt.Br.t (by rw [hchk]; rfl) ?_)))
    refine (c_chk (h.keep E4)).mono ?_
    rintro r w5 ⟨rfl, e5⟩
    refine (r_chk ((h.keep E4).keep e5)).mono ?_
    rintro r w5 ⟨rfl, rfl⟩
    refine Srt.Br.t (by simp) ((c_cost ((h.keep E4).keep e5) ((k.keep E4).keep e5) (by omega)).mono ?_)
    rintro r w6 ⟨rfl, e6⟩
    refine (r_cost (((h.keep E4).keep e5).keep e6) (((k.keep E4).keep e5).keep e6) (by omega)).mono ?_
    rintro r w7 ⟨rfl, e7⟩
    exact Srt.Br.t (by simp) (lv (E4.tr (e5.tr (e6.tr e7))))
  · refine (c_codes_no h hchk).mono ?_
    rintro r e w1 ⟨rfl, e1, hr1⟩
    refine (r_codes (h.keep e1)).mono ?_
    rintro r2 e w2 ⟨rfl, e2, hn2, hc2⟩
    refine (c_new ((h.keep e1).keep e2)).mono ?_
    rintro rt e w3 ⟨rfl, e3, hn3, hc3⟩
    have E3 := e1.tr (e2.tr e3)
    obtain ⟨hl2, i2⟩ := hn2 hchk
    refine (r_same ((hr1.keep e2).keep e3) (i2.keep e3) (by simp)).mono ?_
    rintro b w4 ⟨rfl, e4⟩
    have := hn3 hchk
    subst this
    have E4 := E3.tr e4
    refine Srt.Br.t rfl (Srt.Br.t (by simp) (Srt.Br.t (by simp) (Srt.Br.t (by simp [hchk]) ?_)))
    refine (c_chk (h.keep E4)).mono ?_
    rintro r w5 ⟨rfl, e5⟩
    refine (r_chk ((h.keep E4).keep e5)).mono ?_
    rintro r w5 ⟨rfl, rfl⟩
    refine Srt.Br.t (by simp) ((c_cost ((h.keep E4).keep e5) ((k.keep E4).keep e5) (by omega)).mono ?_)
    rintro r w6 ⟨rfl, e6⟩
    refine (r_cost (((h.keep E4).keep e5).keep e6) (((k.keep E4).keep e5).keep e6) (by omega)).mono ?_
    rintro r w7 ⟨rfl, e7⟩
    exact Srt.Br.t (by simp) (lv (E4.tr (e5.tr (e6.tr e7))))
end
end Cd
end Go.Proofs.Ytapgacggllbhiaa

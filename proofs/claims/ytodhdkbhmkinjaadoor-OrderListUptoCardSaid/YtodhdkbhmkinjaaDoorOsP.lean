/- Order's laws: Moves. Conditions: sizes. -/
import Derived.Test.YtodhdkbhmkinjaaDoorOsO
namespace Go.Proofs.YtodhdkbhmkinjaaDoor
namespace Rdg
open Sh
set_option linter.unusedVariables false
set_option linter.unusedSimpArgs false
set_option maxRecDepth 4000
set_option maxHeartbeats 2000000
attribute [local irreducible] Ld St Nw Nn Lt LdS
def nB (n : Int) : Bool := decide (n ≥ (-268435456)) && decide (n ≤ 268435456)
theorem nB_iff (n : Int) : nB n = true ↔ -268435456 ≤ n ∧ n ≤ 268435456 := by
  unfold nB
  simp only [Bool.and_eq_true, decide_eq_true_eq, ge_iff_le]
theorem c_within (n : Int) (w : World) : C21 n w fun r w1 => r = nB n ∧ w1 = w := by
  refine T21 _ _ _ ?_
  unfold S21
  refine Br.dec (fun q => ?_) fun q => ?_
  · exact ⟨by unfold nB; rw [decide_eq_true q, Bool.true_and], rfl⟩
  · exact ⟨by unfold nB; rw [decide_eq_false q, Bool.false_and], rfl⟩
/-- Boxes within bounds. -/
def BI (b : R4) : Prop := (-4294967296 ≤ b.1 ∧ b.1 ≤ 4294967296) ∧ (-4294967296 ≤ b.2.1 ∧ b.2.1 ≤ 4294967296) ∧ (-4294967296 ≤ b.2.2.1 ∧ b.2.2.1 ≤ 4294967296) ∧ (-4294967296 ≤ b.2.2.2 ∧ b.2.2.2 ≤ 4294967296)
theorem BI.both {a b : R4} (h : BI a) (k : BI b) : BI (both a b) := by
  unfold BI at *
  unfold Rdg.both
  dsimp only
  omega
theorem BI.box {x : Sg} (h : Cl x) : BI x.box := by
  have := h.fx; have := h.fy; have := h.tx; have := h.ty; have := h.hi
  unfold BI Sg.box
  dsimp only
  omega
theorem stepW_bi {p : Option Sg} {ws : List Wd} {x : Sg} (h : ∀ v ∈ ws, BI v.box) (hx : BI x.box) : ∀ v ∈ stepW p ws x, BI v.box := by
  have new : ∀ {ws : List Wd}, (∀ v ∈ ws, BI v.box) → ∀ v ∈ (⟨x.s, x.box⟩ : Wd) :: ws, BI v.box := fun hw v hv => by
    rcases List.mem_cons.1 hv with rfl | hv
    · exact hx
    · exact hw v hv
  unfold stepW
  split
  · exact h
  · cases p with
    | none => exact new h
    | some a => cases ws with
      | nil => exact new h
      | cons w r =>
        dsimp only
        split
        · intro v hv
          rcases List.mem_cons.1 hv with rfl | hv
          · exact (h w List.mem_cons_self).both hx
          · exact h v (List.mem_cons_of_mem _ hv)
        · exact new h
theorem wordsR_bi : ∀ (l : List Sg) (p : Option Sg) (ws : List Wd), (∀ x ∈ l, BI x.box) → (∀ v ∈ ws, BI v.box) → ∀ v ∈ wordsR p ws l, BI v.box
  | [], _, _, _, h => h
  | x :: l, p, ws, hl, h => wordsR_bi l (some x) (stepW p ws x) (fun y hy => hl y (List.mem_cons_of_mem _ hy)) (stepW_bi h (hl x List.mem_cons_self))
theorem allW_bi {l : List Sg} (h : ∀ x ∈ l, Cl x) : ∀ v ∈ allW l, BI v.box := fun v hv => by
  rw [allW_eq] at hv
  obtain ⟨r, hr, hv⟩ := List.mem_flatMap.1 hv
  unfold wordsF at hv
  exact wordsR_bi r none [] (fun x hx => BI.box (h x (rowsF_mem hr x hx))) (fun v hv => by cases hv) v (List.mem_reverse.1 hv)
/-- A glyph within bounds. -/
structure In (g : Sg) : Prop where
  fx : -268435456 ≤ g.fx ∧ g.fx ≤ 268435456
  fy : -268435456 ≤ g.fy ∧ g.fy ≤ 268435456
  tx : -268435456 ≤ g.tx ∧ g.tx ≤ 268435456
  ty : -268435456 ≤ g.ty ∧ g.ty ≤ 268435456
theorem clamp_mv {g : Sg} {dx dy : Int} (h : In g) (hx : -268435456 ≤ dx ∧ dx ≤ 268435456) (hy : -268435456 ≤ dy ∧ dy ≤ 268435456) (i : Nat) : clampS (g.mv dx dy) i = (clampS g i).mv dx dy := by
  have := h.fx; have := h.fy; have := h.tx; have := h.ty
  have e : ∀ n d : Int, (-268435456 ≤ n ∧ n ≤ 268435456) → (-268435456 ≤ d ∧ d ≤ 268435456) → bd (n + d) = bd n + d := fun n d h1 h2 => by unfold bd; omega
  unfold clampS Sg.mv
  dsimp only
  rw [e _ _ h.fx hx, e _ _ h.fy hy, e _ _ h.tx hx, e _ _ h.ty hy]
theorem allN_mv {dx dy : Int} (hx : -268435456 ≤ dx ∧ dx ≤ 268435456) (hy : -268435456 ≤ dy ∧ dy ≤ 268435456) : ∀ (i : Nat) (L : List Sg), (∀ g ∈ L, In g) → allN i (L.map (Sg.mv dx dy)) = (allN i L).map (Sg.mv dx dy)
  | _, [], _ => rfl
  | i, g :: L, h => by
    rw [List.map_cons, allN_cons, allN_cons, List.map_append, allN_mv hx hy (i + 1) L fun g hg => h g (List.mem_cons_of_mem _ hg), clamp_mv (h g List.mem_cons_self) hx hy]
    have : (g.mv dx dy).s = g.s := rfl
    rw [this]
    split <;> rfl
theorem lets_mv (dx dy : Int) (L : List Sg) : lets (L.map (Sg.mv dx dy)) = lets L := by
  unfold lets
  rw [List.map_map]
  rfl
theorem elG : El Tryd.prog 22 32 9 88 (.agg (gcells zeroS).toArray) := ⟨by kernel_rfl, by kernel_rfl, by kernel_rfl, by kernel_rfl, rfl⟩
theorem gcells_one (x : Sg) : ∀ v ∈ gcells x, v.oneCell' = true := fun v hv => by
  simp only [gcells, List.mem_cons, List.not_mem_nil, or_false] at hv
  rcases hv with rfl | rfl | rfl | rfl | rfl | rfl | rfl | rfl | rfl <;> rfl
theorem cellW {s : Slc} {ws : List Wd} {v : Wd} {i : Nat} {a : Addr} (hi : ws[i]? = some v) (ha : s.p = some a) : ∀ w', WsV w' s ws → ∀ j c, (wcells v)[j]? = some c → w'.cell? (a.add (i * 5 + j)) = some c := fun w' hw j c hj => by
  obtain ⟨a', ha', hc⟩ := VRow.elem wcells_len hw hi (by decide)
  rw [ha] at ha'
  cases ha'
  exact hc j c hj
/-- The last loop: word for word. -/
theorem mv_words_loop {w : World} {s1 s2 : Slc} {A : List Wd} {dx dy : Int} (h1 : WsV w s1 A) (h2 : WsV w s2 (A.map (Wd.mv dx dy))) (hA : ∀ v ∈ A, BI v.box) (hl : A.length ≤ 1048576) (hx : -268435456 ≤ dx ∧ dx ≤ 268435456) (hy : -268435456 ≤ dy ∧ dy ≤ 268435456) {R : Bool → World → Prop} (k : ∀ w', Ext (fun _ => False) w w' → R true w') :
    Lp (σ := Int) (S6L1 dx dy s1 s2 R) 0 w := by
  have c1 := h1.count
  have c2 := h2.count
  rw [List.length_map] at c2
  refine ⟨fun m st w1 => ∃ i : Nat, st = (i : Int) ∧ i ≤ A.length ∧ m = A.length - i ∧ Ext (fun _ => False) w w1, A.length, ⟨0, rfl, Nat.zero_le _, rfl, Ext.refl _ _⟩, ?_⟩
  rintro m st w4 ⟨i, rfl, hi, rfl, e4⟩
  unfold S6L1
  rw [c1, c2]
  refine Br.dec (fun q => ?_) fun q => ?_
  · have hil : i < A.length := by omega
    have ga : A[i]? = some A[i] := List.getElem?_eq_getElem hil
    have gb : (A.map (Wd.mv dx dy))[i]? = some (A[i].mv dx dy) := by rw [List.getElem?_map, ga]; rfl
    have hb := hA _ (List.getElem_mem hil)
    generalize A[i] = v at *
    have e5 := e4.drew
    obtain ⟨p1, hp1, _⟩ := VRow.elem wcells_len (h1.keep e5) ga (by decide)
    obtain ⟨p2, hp2, _⟩ := VRow.elem wcells_len (h2.keep e5) gb (by decide)
    have d1 := cellW ga hp1
    have d2 := cellW gb hp2
    unfold BI at hb
    refine ⟨fun w' => WsV w' s1 A ∧ WsV w' s2 (A.map (Wd.mv dx dy)), ⟨h1.keep e5, h2.keep e5⟩, by omega, by omega, ?_⟩
    rw [hp1, hp2, Int.toNat_natCast]
    simp only [add_add']
    refine Nn.of (ldS_mk (x := v.s) (fun w' hw => d1 w' hw.1 0 _ rfl) ⟨by omega, by omega, Nn.of ?_⟩)
    refine ldS_mk (x := v.s) (fun w' hw => d2 w' hw.2 0 _ rfl) (Br.f (by simp) ⟨by omega, by omega, Nn.of ?_⟩)
    refine ldS_mk (x := v.box.1 + dx) (fun w' hw => d2 w' hw.2 1 _ rfl) (ldS_mk (x := v.box.2.1 + dy) (fun w' hw => d2 w' hw.2 2 _ rfl) (ldS_mk (x := v.box.2.2.1 + dx) (fun w' hw => d2 w' hw.2 3 _ rfl) (ldS_mk (x := v.box.2.2.2 + dy) (fun w' hw => d2 w' hw.2 4 _ rfl) ⟨by omega, by omega, Nn.of ?_⟩)))
    refine ldS_mk (x := v.box.1) (fun w' hw => d1 w' hw.1 1 _ rfl) ⟨by omega, by omega, Nn.of ?_⟩
    refine ldS_mk (x := v.box.2.1) (fun w' hw => d1 w' hw.1 2 _ rfl) ⟨by omega, by omega, Nn.of ?_⟩
    refine ldS_mk (x := v.box.2.2.1) (fun w' hw => d1 w' hw.1 3 _ rfl) ⟨by omega, by omega, Nn.of ?_⟩
    refine ldS_mk (x := v.box.2.2.2) (fun w' hw => d1 w' hw.1 4 _ rfl) ⟨⟨h1.keep e5, h2.keep e5⟩, ?_⟩
    rw [i64_id (n := v.box.1 + dx) (by omega), i64_id (n := v.box.2.1 + dy) (by omega), i64_id (n := v.box.2.2.1 + dx) (by omega), i64_id (n := v.box.2.2.2 + dy) (by omega)]
    exact Br.f (by simp) ⟨A.length - (i + 1), by omega, i + 1, by rw [i64_id (by omega)]; rfl, by omega, rfl, e5⟩
  · refine (c_lives w4).mono ?_
    rintro r w5 ⟨rfl, e5⟩
    exact k w5 (e4.tr e5)
end Rdg
end Go.Proofs.YtodhdkbhmkinjaaDoor

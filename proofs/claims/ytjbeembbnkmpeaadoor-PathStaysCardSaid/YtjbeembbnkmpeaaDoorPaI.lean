/- Paths: the reference's Same, SamePaint, Paints; the head of Box. Conditions: sizes. -/
import Derived.Test.YtjbeembbnkmpeaaDoorPaH
namespace Go.Proofs.YtjbeembbnkmpeaaDoor
open Sh
/-- path.Box: the call returns. -/
def C29 (l1 : Slc) (w : World) (R : (Int × Int × Int × Int) → Bool → World → Prop) : Prop :=
  Calls Tryd.prog 29 #[Slc.v l1] w fun e w' => ∃ r0 : Int × Int × Int × Int, ∃ r1 : Bool, e = .returned (.tuple #[.agg #[.int .i64 (r0.1), .int .i64 (r0.2.1), .int .i64 (r0.2.2.1), .int .i64 (r0.2.2.2)], .bool r1]) ∧ R r0 r1 w'
theorem C29.mono {l1 : Slc} {w : World} {R R' : (Int × Int × Int × Int) → Bool → World → Prop} (h : C29 l1 w R) (hr : ∀ r0 r1 w', R r0 r1 w' → R' r0 r1 w') : C29 l1 w R' :=
  Calls.mono h fun _ _ ⟨r0, r1, he, hR⟩ => ⟨r0, r1, he, hr _ _ _ hR⟩
namespace Pat
open Sh Mat Fix Opr
set_option linter.unusedVariables false
set_option linter.unusedSimpArgs false
set_option maxRecDepth 8000
set_option maxHeartbeats 8000000
/-- The points of a segment. -/
def ptsS (s : Sg) : List (Int × Int) := if s.1 = 1 ∨ s.1 = 2 then [(s.2.2.2.2.2.1, s.2.2.2.2.2.2)] else if s.1 = 3 then [(s.2.1, s.2.2.1), (s.2.2.2.1, s.2.2.2.2.1), (s.2.2.2.2.2.1, s.2.2.2.2.2.2)] else []
def ptsL (L : List Sg) : List (Int × Int) := L.flatMap ptsS
abbrev Bx : Type := Int × Int × Int × Int
def addB (b : Bx) (p : Int × Int) : Bx := (min b.1 p.1, min b.2.1 p.2, max b.2.2.1 p.1, max b.2.2.2 p.2)
def boxP : List (Int × Int) → Bx × Bool
  | [] => ((0, 0, 0, 0), false)
  | p :: r => ((p :: r).foldl addB (p.1, p.2, p.1, p.2), true)
/-- What Box is to give. -/
def BoxOk : Prop := ∀ (w : World) (s : Slc) (L : List Sg), SV w s L → L.length ≤ 100000 → C29 s w fun r is w1 => (r, is) = boxP (ptsL L) ∧ Ext (fun _ => False) w w1
section
variable {w0 w w' w1 w7 : World} {s s2 sg : Slc} {L M : List Sg} {b : Nat} {p : Pa} {a : ByteArray}
attribute [local irreducible] Ld Sh.St Nw Nn LdS LdT LdST StT
theorem r_same (h : SV w s L) (h2 : SV w s2 M) (hl : L.length ≤ 100000) : C40 s s2 w fun r w1 => r = decide (L = M) ∧ Ext (fun _ => False) w w1 := by
  refine T40 _ _ _ _ ?_
  unfold S40
  rw [h.1, h2.1]
  refine Br.ne (fun q => ⟨?_, Ext.refl _ _⟩) fun q => ?_
  · symm
    rw [decide_eq_false_iff_not]
    rintro rfl
    exact q rfl
  have hLM : L.length = M.length := by omega
  refine ⟨fun n st w3 => ∃ i : Nat, st = (i : Int) ∧ i ≤ L.length ∧ n = L.length - i ∧ L.take i = M.take i ∧ Ext (fun _ => False) w w3, L.length, ⟨0, rfl, by omega, rfl, by simp, Ext.refl _ _⟩, ?_⟩
  rintro n st w3 ⟨i, rfl, hi, rfl, hall, e3⟩
  unfold S40L1
  rw [h.1, h2.1]
  refine Br.dec (fun q => ?_) fun q => ?_
  · have e3 := e3.drew
    have hL : L[i]? = some L[i] := List.getElem?_eq_getElem (by omega)
    have hM : M[i]? = some M[i] := List.getElem?_eq_getElem (by omega)
    have tL : L.take (i + 1) = L.take i ++ [L[i]] := by rw [List.take_add_one, hL]; rfl
    have tM : M.take (i + 1) = M.take i ++ [M[i]] := by rw [List.take_add_one, hM]; rfl
    generalize L[i] = o at hL tL
    generalize M[i] = q' at hM tM
    obtain ⟨a1, ha1, c1⟩ := (h.keep e3).get hL
    obtain ⟨a2, ha2, c2⟩ := (h2.keep e3).get hM
    have c10 := c1 0 _ rfl
    rw [add_add', Nat.add_zero] at c10
    have c20 := c2 0 _ rfl
    rw [add_add', Nat.add_zero] at c20
    rw [ha1, ha2, Int.toNat_natCast]
    refine ⟨by omega, by omega, Nn.of (Ld.mk c10 (Ld.mk (c1 1 _ rfl) (Ld.mk (c1 2 _ rfl) (Ld.mk (c1 3 _ rfl) (Ld.mk (c1 4 _ rfl) (Ld.mk (c1 5 _ rfl) (Ld.mk (c1 6 _ rfl) ?_)))))))⟩
    refine ⟨by omega, by omega, Nn.of (Ld.mk c20 (Ld.mk (c2 1 _ rfl) (Ld.mk (c2 2 _ rfl) (Ld.mk (c2 3 _ rfl) (Ld.mk (c2 4 _ rfl) (Ld.mk (c2 5 _ rfl) (Ld.mk (c2 6 _ rfl) (Lt.of ?_))))))))⟩
    rw [seg_eq]
    refine Br.dec (fun hne => ⟨?_, e3⟩) fun heq => ?_
    · symm
      rw [decide_eq_false_iff_not]
      rintro rfl
      rw [hL] at hM
      cases hM
      exact hne rfl
    · refine ⟨L.length - (i + 1), by omega, i + 1, by rw [i64_id (by omega)]; rfl, by omega, rfl, ?_, e3⟩
      rw [tL, tM, hall, Decidable.not_not.1 heq]
  · refine ⟨?_, e3⟩
    symm
    rw [decide_eq_true_iff]
    rwa [List.take_of_length_le (by omega), List.take_of_length_le (by omega)] at hall
theorem r_paints (a : ByteArray) (w : World) : C35 a w fun r w1 => r = decide (bl a ∈ ten) ∧ w1 = w := by
  refine T35 _ _ _ ?_
  unfold S35
  have yes : ∀ {l : By}, bl a = l → l ∈ ten → (true = decide (bl a ∈ ten) ∧ w = w) := fun h1 h2 => ⟨(decide_eq_true (by rw [h1]; exact h2)).symm, rfl⟩
  refine BrB (fun q => BrB (fun _ => yes q (by decide)) fun nq => absurd q nq) fun n1 => ?_
  refine BrB (fun q => BrB (fun _ => yes q (by decide)) fun nq => absurd q nq) fun n2 => ?_
  refine BrB (fun q => BrB (fun _ => yes q (by decide)) fun nq => absurd q nq) fun n3 => ?_
  refine BrB (fun q => BrB (fun _ => yes q (by decide)) fun nq => absurd q nq) fun n4 => ?_
  refine BrB (fun q => BrB (fun _ => yes q (by decide)) fun nq => absurd q nq) fun n5 => ?_
  refine BrB (fun q => BrB (fun _ => yes q (by decide)) fun nq => absurd q nq) fun n6 => ?_
  refine BrB (fun q => BrB (fun _ => yes q (by decide)) fun nq => absurd q nq) fun n7 => ?_
  refine BrB (fun q => BrB (fun _ => yes q (by decide)) fun nq => absurd q nq) fun n8 => ?_
  refine BrB (fun q => BrB (fun _ => yes q (by decide)) fun nq => absurd q nq) fun n9 => ?_
  refine BrB (fun q => yes q (by decide)) fun n10 => ⟨?_, rfl⟩
  symm
  rw [decide_eq_false_iff_not]
  unfold ten
  simp only [List.mem_cons, List.not_mem_nil, or_false, not_or]
  exact ⟨n1, n2, n3, n4, n5, n6, n7, n8, n9, n10⟩
theorem r_samePaint {x y : Pt} (h : SV w x.2.1 L) (h2 : SV w y.2.1 M) (hl : L.length ≤ 100000) : C37 x y w fun r w1 => r = decide (x.1 = y.1 ∧ L = M ∧ x.2.2 = y.2.2) ∧ Ext (fun _ => False) w w1 := by
  refine T37 _ _ _ _ ?_
  unfold S37
  refine (Hn.start w).nw fun w2 H => ?_
  refine H.nw fun w3 H => ?_
  simp only [List.cons_append, List.nil_append, add_lit, Nat.zero_add] at H ⊢
  have no : ∀ {w4 : World}, Ext (fun _ => False) w w4 → ¬ (x.1 = y.1 ∧ L = M ∧ x.2.2 = y.2.2) → (false = decide (x.1 = y.1 ∧ L = M ∧ x.2.2 = y.2.2) ∧ Ext (fun _ => False) w w4) := fun e hh => ⟨(decide_eq_false hh).symm, e⟩
  refine H.ld 0 rfl rfl (H.ld 1 rfl rfl ?_)
  refine Br.eq (fun q1 => ?_) fun q1 => no H.ext fun hh => q1 hh.1
  refine H.ld 0 rfl rfl (H.ld 1 rfl rfl ?_)
  refine (r_same (h.keep H.ext) (h2.keep H.ext) hl).mono ?_
  rintro r w4 ⟨rfl, e4⟩
  have H := H.keep e4
  refine Br.dec (fun q2 => ?_) fun q2 => no H.ext fun hh => q2 hh.2.1
  iterate 5 refine H.ld 0 rfl rfl ?_
  iterate 5 refine H.ld 1 rfl rfl ?_
  refine Lt.of ?_
  have t : ∀ {c : Bool} {A B : Prop}, (c = true → A) → (c = false → B) → Br c A B := fun {c A B} k1 k2 => by
    cases c
    · exact k2 rfl
    · exact k1 rfl
  obtain ⟨x1, x2, x3, x4, x5, x6, x7, x8, x9, x10, x11, x12⟩ := x
  obtain ⟨y1, y2, y3, y4, y5, y6, y7, y8, y9, y10, y11, y12⟩ := y
  refine t (fun q3 => ?_) fun q3 => no H.ext fun hh => ?_
  · iterate 5 refine H.ld 0 rfl rfl ?_
    iterate 5 refine H.ld 1 rfl rfl ?_
    refine Lt.of ⟨?_, H.ext⟩
    simp only [Prod.mk.injEq] at *
    simp only [Bool.and_true, Bool.and_eq_true, beq_iff_eq] at q3
    rw [Bool.eq_iff_iff]
    simp only [Bool.and_true, Bool.and_eq_true, beq_iff_eq, decide_eq_true_eq]
    constructor
    · rintro ⟨h1, h2, h3, h4, h5⟩
      exact ⟨q1, q2, q3.1, q3.2.1, q3.2.2.1, q3.2.2.2.1, q3.2.2.2.2, h1, h2, h3, h4, h5⟩
    · rintro ⟨_, _, _, _, _, _, _, h1, h2, h3, h4, h5⟩
      exact ⟨h1, h2, h3, h4, h5⟩
  · obtain ⟨_, _, h3⟩ := hh
    simp only [Prod.mk.injEq] at h3
    obtain ⟨g1, g2, g3, g4, g5, _⟩ := h3
    subst g1 g2 g3 g4 g5
    simp at q3
end
end Pat
end Go.Proofs.YtjbeembbnkmpeaaDoor

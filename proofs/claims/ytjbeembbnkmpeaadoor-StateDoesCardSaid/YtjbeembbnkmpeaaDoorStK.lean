/- Whether two graphics states are the same, on both sides. Conditions: sizes. -/
import Derived.Test.YtjbeembbnkmpeaaDoorStJ
namespace Go.Proofs.YtjbeembbnkmpeaaDoor
namespace Ste
open Sh Mat Opr
set_option linter.unusedVariables false
set_option linter.unusedSimpArgs false
set_option maxRecDepth 8000
set_option maxHeartbeats 8000000
def c0 (x y : G) : Bool := ((x.1 == y.1) && ((x.2.1 == y.2.1) && ((x.2.2.1 == y.2.2.1) && ((x.2.2.2.1 == y.2.2.2.1) && ((x.2.2.2.2.1 == y.2.2.2.2.1) && ((x.2.2.2.2.2.1 == y.2.2.2.2.2.1) && true))))))
def c6 (x y : G) : Bool := (x.2.2.2.2.2.2.1 == y.2.2.2.2.2.2.1)
def c7 (x y : G) : Bool := (x.2.2.2.2.2.2.2.1 == y.2.2.2.2.2.2.2.1)
def c8 (x y : G) : Bool := (x.2.2.2.2.2.2.2.2.1 == y.2.2.2.2.2.2.2.2.1)
def c9 (x y : G) : Bool := (x.2.2.2.2.2.2.2.2.2.1 == y.2.2.2.2.2.2.2.2.2.1)
def c11 (x y : G) : Bool := (x.2.2.2.2.2.2.2.2.2.2.2.1 == y.2.2.2.2.2.2.2.2.2.2.2.1)
def c12 (x y : G) : Bool := ((x.2.2.2.2.2.2.2.2.2.2.2.2.1 == y.2.2.2.2.2.2.2.2.2.2.2.2.1) && ((x.2.2.2.2.2.2.2.2.2.2.2.2.2.1 == y.2.2.2.2.2.2.2.2.2.2.2.2.2.1) && ((x.2.2.2.2.2.2.2.2.2.2.2.2.2.2.1 == y.2.2.2.2.2.2.2.2.2.2.2.2.2.2.1) && ((x.2.2.2.2.2.2.2.2.2.2.2.2.2.2.2.1 == y.2.2.2.2.2.2.2.2.2.2.2.2.2.2.2.1) && ((x.2.2.2.2.2.2.2.2.2.2.2.2.2.2.2.2.1 == y.2.2.2.2.2.2.2.2.2.2.2.2.2.2.2.2.1) && true)))))
def c17 (x y : G) : Bool := ((x.2.2.2.2.2.2.2.2.2.2.2.2.2.2.2.2.2.1 == y.2.2.2.2.2.2.2.2.2.2.2.2.2.2.2.2.2.1) && ((x.2.2.2.2.2.2.2.2.2.2.2.2.2.2.2.2.2.2.1 == y.2.2.2.2.2.2.2.2.2.2.2.2.2.2.2.2.2.2.1) && ((x.2.2.2.2.2.2.2.2.2.2.2.2.2.2.2.2.2.2.2.1 == y.2.2.2.2.2.2.2.2.2.2.2.2.2.2.2.2.2.2.2.1) && ((x.2.2.2.2.2.2.2.2.2.2.2.2.2.2.2.2.2.2.2.2.1 == y.2.2.2.2.2.2.2.2.2.2.2.2.2.2.2.2.2.2.2.2.1) && ((x.2.2.2.2.2.2.2.2.2.2.2.2.2.2.2.2.2.2.2.2.2.1 == y.2.2.2.2.2.2.2.2.2.2.2.2.2.2.2.2.2.2.2.2.2.1) && true)))))
def c22 (x y : G) : Bool := ((x.2.2.2.2.2.2.2.2.2.2.2.2.2.2.2.2.2.2.2.2.2.2.1 == y.2.2.2.2.2.2.2.2.2.2.2.2.2.2.2.2.2.2.2.2.2.2.1) && ((x.2.2.2.2.2.2.2.2.2.2.2.2.2.2.2.2.2.2.2.2.2.2.2.1 == y.2.2.2.2.2.2.2.2.2.2.2.2.2.2.2.2.2.2.2.2.2.2.2.1) && ((x.2.2.2.2.2.2.2.2.2.2.2.2.2.2.2.2.2.2.2.2.2.2.2.2.1 == y.2.2.2.2.2.2.2.2.2.2.2.2.2.2.2.2.2.2.2.2.2.2.2.2.1) && ((x.2.2.2.2.2.2.2.2.2.2.2.2.2.2.2.2.2.2.2.2.2.2.2.2.2.1 == y.2.2.2.2.2.2.2.2.2.2.2.2.2.2.2.2.2.2.2.2.2.2.2.2.2.1) && ((x.2.2.2.2.2.2.2.2.2.2.2.2.2.2.2.2.2.2.2.2.2.2.2.2.2.2.1 == y.2.2.2.2.2.2.2.2.2.2.2.2.2.2.2.2.2.2.2.2.2.2.2.2.2.2.1) && ((x.2.2.2.2.2.2.2.2.2.2.2.2.2.2.2.2.2.2.2.2.2.2.2.2.2.2.2.1 == y.2.2.2.2.2.2.2.2.2.2.2.2.2.2.2.2.2.2.2.2.2.2.2.2.2.2.2.1) && ((x.2.2.2.2.2.2.2.2.2.2.2.2.2.2.2.2.2.2.2.2.2.2.2.2.2.2.2.2.1.toList == y.2.2.2.2.2.2.2.2.2.2.2.2.2.2.2.2.2.2.2.2.2.2.2.2.2.2.2.2.1.toList) && ((x.2.2.2.2.2.2.2.2.2.2.2.2.2.2.2.2.2.2.2.2.2.2.2.2.2.2.2.2.2 == y.2.2.2.2.2.2.2.2.2.2.2.2.2.2.2.2.2.2.2.2.2.2.2.2.2.2.2.2.2) && true))))))))
/-- Whether two states are the same. -/
def sameB (x y : G) (D E : List Int) : Bool := c0 x y && c6 x y && c7 x y && c8 x y && c9 x y && c11 x y && c12 x y && c17 x y && c22 x y && (D == E)
theorem sameB_refl (x : G) (D : List Int) : sameB x x D D = true := by
  unfold sameB c0 c6 c7 c8 c9 c11 c12 c17 c22
  simp
theorem sameB_up (x y : G) (t u : Slc) (D E : List Int) : sameB (up10 x t) (up10 y u) D E = sameB x y D E := by
  unfold sameB c0 c6 c7 c8 c9 c11 c12 c17 c22 up10
  dsimp only
theorem BrV {c : Bool} {A B : Prop} (h1 : c = true → A) (h2 : c = false → B) : Br c A B := by
  cases c
  · exact h2 rfl
  · exact h1 rfl
attribute [local irreducible] Ld Sh.St Nw Nn LdS LdT LdST StT
section
variable {w w1 : World} {s s2 : Slc} {D E : List Int} {x y : G}
theorem getD_eqI {l m : List Int} (hl : l.length = m.length) (h : ∀ j, j < l.length → l.getD j 0 = m.getD j 0) : l = m := by
  apply List.ext_getElem hl
  intro j h1 h2
  have := h j h1
  rw [List.getD_eq_getElem?_getD, List.getD_eq_getElem?_getD, List.getElem?_eq_getElem h1, List.getElem?_eq_getElem h2] at this
  exact this
theorem c_equal (h : IV w s D) (h2 : IV w s2 E) (hl : D.length ≤ 1000000) : C120 s s2 w fun r w1 => r = (D == E) ∧ Ext (fun _ => False) w w1 := by
  refine T120 _ _ _ _ ?_
  unfold S120
  rw [h.1, h2.1]
  refine Br.ne (fun q => ⟨?_, Ext.refl _ _⟩) fun q => ?_
  · symm
    rw [beq_eq_false_iff_ne]
    rintro rfl
    exact q rfl
  have hDE : D.length = E.length := by omega
  refine ⟨fun n st w3 => ∃ i : Nat, st = (i : Int) ∧ i ≤ D.length ∧ n = D.length - i ∧ (∀ j, j < i → D.getD j 0 = E.getD j 0) ∧ Ext (fun _ => False) w w3, D.length, ⟨0, rfl, by omega, rfl, fun j hj => by omega, Ext.refl _ _⟩, ?_⟩
  rintro n st w3 ⟨i, rfl, hi, rfl, hall, e3⟩
  unfold S120L1
  rw [h.1, h2.1]
  refine Br.dec (fun q => ?_) fun q => ?_
  · obtain ⟨a1, ha1, g1⟩ := (h.keep e3.drew).get (i := i) (by omega)
    obtain ⟨a2, ha2, g2⟩ := (h2.keep e3.drew).get (i := i) (by omega)
    rw [ha1, ha2, Int.toNat_natCast]
    refine ⟨by omega, by omega, Nn.of (Ld.mk g1 ⟨by omega, by omega, Nn.of (Ld.mk g2 (Br.ne (fun q2 => ⟨?_, e3.drew⟩) fun q2 => ?_))⟩)⟩
    · symm
      rw [beq_eq_false_iff_ne]
      rintro rfl
      exact q2 rfl
    · refine ⟨D.length - (i + 1), by omega, i + 1, by rw [i64_id (by omega)]; rfl, by omega, rfl, fun j hj => ?_, e3.drew⟩
      by_cases e : j = i
      · subst e
        exact q2
      · exact hall j (by omega)
  · refine ⟨?_, e3⟩
    symm
    rw [beq_iff_eq]
    exact getD_eqI hDE fun j hj => hall j (by omega)
theorem c_first' (m : Mx) (w : World) : C51 m w fun r w1 => r = firstG m ∧ Ext (fun _ => False) w w1 := by
  refine T51 _ _ _ ?_
  unfold S51
  refine (Hn.start w).nw fun w2 H => ?_
  refine H.nw fun w3 H => ?_
  simp only [List.cons_append, List.nil_append, add_lit, Nat.zero_add] at H ⊢
  iterate 6 refine H.ld 0 rfl rfl ?_
  refine stG H (i := 1) rfl rfl fun w6 H6 => ?_
  simp only [List.set_cons_zero, List.set_cons_succ] at H6
  exact ldG (H6.get 1 rfl) ⟨rfl, H6.ext⟩
theorem c_same (hx : IV w (dsh x) D) (hy : IV w (dsh y) E) (hl : D.length ≤ 1000000) : C57 x y w fun r w1 => r = sameB x y D E ∧ Ext (fun _ => False) w w1 := by
  refine T57 _ _ _ _ ?_
  unfold S57
  refine (Hn.start w).nw fun w2 H => ?_
  refine H.nw fun w3 H => ?_
  simp only [List.cons_append, List.nil_append, add_lit, Nat.zero_add] at H ⊢
  refine H.ld 0 rfl (at0 _) ?_
  refine H.ld 0 rfl (at1 _) ?_
  refine H.ld 0 rfl (at2 _) ?_
  refine H.ld 0 rfl (at3 _) ?_
  refine H.ld 0 rfl (at4 _) ?_
  refine H.ld 0 rfl (at5 _) ?_
  refine H.ld 1 rfl (at0 _) ?_
  refine H.ld 1 rfl (at1 _) ?_
  refine H.ld 1 rfl (at2 _) ?_
  refine H.ld 1 rfl (at3 _) ?_
  refine H.ld 1 rfl (at4 _) ?_
  refine H.ld 1 rfl (at5 _) ?_
  refine Lt.of ?_
  refine BrV (fun q0 => ?_) fun q0 => ⟨(show sameB x y D E = false from by unfold sameB; simp only [show c0 x y = false from q0, Bool.true_and, Bool.and_true, Bool.false_and, Bool.and_false]).symm, H.ext⟩
  refine H.ld 0 rfl (at6 _) ?_
  refine H.ld 1 rfl (at6 _) ?_
  refine BrV (fun q6 => ?_) fun q6 => ⟨(show sameB x y D E = false from by unfold sameB; simp only [show c0 x y = true from q0, show c6 x y = false from q6, Bool.true_and, Bool.and_true, Bool.false_and, Bool.and_false]).symm, H.ext⟩
  refine H.ld 0 rfl (at7 _) ?_
  refine H.ld 1 rfl (at7 _) ?_
  refine BrV (fun q7 => ?_) fun q7 => ⟨(show sameB x y D E = false from by unfold sameB; simp only [show c0 x y = true from q0, show c6 x y = true from q6, show c7 x y = false from q7, Bool.true_and, Bool.and_true, Bool.false_and, Bool.and_false]).symm, H.ext⟩
  refine H.ld 0 rfl (at8 _) ?_
  refine H.ld 1 rfl (at8 _) ?_
  refine BrV (fun q8 => ?_) fun q8 => ⟨(show sameB x y D E = false from by unfold sameB; simp only [show c0 x y = true from q0, show c6 x y = true from q6, show c7 x y = true from q7, show c8 x y = false from q8, Bool.true_and, Bool.and_true, Bool.false_and, Bool.and_false]).symm, H.ext⟩
  refine H.ld 0 rfl (at9 _) ?_
  refine H.ld 1 rfl (at9 _) ?_
  refine BrV (fun q9 => ?_) fun q9 => ⟨(show sameB x y D E = false from by unfold sameB; simp only [show c0 x y = true from q0, show c6 x y = true from q6, show c7 x y = true from q7, show c8 x y = true from q8, show c9 x y = false from q9, Bool.true_and, Bool.and_true, Bool.false_and, Bool.and_false]).symm, H.ext⟩
  refine H.ld 0 rfl (at10 _) ?_
  refine H.ld 1 rfl (at10 _) ?_
  refine (c_equal (D := D) (E := E) (hx.keep H.ext) (hy.keep H.ext) hl).mono ?_
  rintro r w4 ⟨rfl, e4⟩
  have H := H.keep e4
  refine BrV (fun qd => ?_) fun qd => ⟨(show sameB x y D E = false from by unfold sameB; simp only [show c0 x y = true from q0, show c6 x y = true from q6, show c7 x y = true from q7, show c8 x y = true from q8, show c9 x y = true from q9, show (D == E) = false from qd, Bool.true_and, Bool.and_true, Bool.false_and, Bool.and_false]).symm, H.ext⟩
  refine H.ld 0 rfl (at11 _) ?_
  refine H.ld 1 rfl (at11 _) ?_
  refine BrV (fun q11 => ?_) fun q11 => ⟨(show sameB x y D E = false from by unfold sameB; simp only [show c0 x y = true from q0, show c6 x y = true from q6, show c7 x y = true from q7, show c8 x y = true from q8, show c9 x y = true from q9, show (D == E) = true from qd, show c11 x y = false from q11, Bool.true_and, Bool.and_true, Bool.false_and, Bool.and_false]).symm, H.ext⟩
  refine H.ld 0 rfl (at12 _) ?_
  refine H.ld 0 rfl (at13 _) ?_
  refine H.ld 0 rfl (at14 _) ?_
  refine H.ld 0 rfl (at15 _) ?_
  refine H.ld 0 rfl (at16 _) ?_
  refine H.ld 1 rfl (at12 _) ?_
  refine H.ld 1 rfl (at13 _) ?_
  refine H.ld 1 rfl (at14 _) ?_
  refine H.ld 1 rfl (at15 _) ?_
  refine H.ld 1 rfl (at16 _) ?_
  refine Lt.of ?_
  refine BrV (fun q12 => ?_) fun q12 => ⟨(show sameB x y D E = false from by unfold sameB; simp only [show c0 x y = true from q0, show c6 x y = true from q6, show c7 x y = true from q7, show c8 x y = true from q8, show c9 x y = true from q9, show (D == E) = true from qd, show c11 x y = true from q11, show c12 x y = false from q12, Bool.true_and, Bool.and_true, Bool.false_and, Bool.and_false]).symm, H.ext⟩
  refine H.ld 0 rfl (at17 _) ?_
  refine H.ld 0 rfl (at18 _) ?_
  refine H.ld 0 rfl (at19 _) ?_
  refine H.ld 0 rfl (at20 _) ?_
  refine H.ld 0 rfl (at21 _) ?_
  refine H.ld 1 rfl (at17 _) ?_
  refine H.ld 1 rfl (at18 _) ?_
  refine H.ld 1 rfl (at19 _) ?_
  refine H.ld 1 rfl (at20 _) ?_
  refine H.ld 1 rfl (at21 _) ?_
  refine Lt.of ?_
  refine BrV (fun q17 => ?_) fun q17 => ⟨(show sameB x y D E = false from by unfold sameB; simp only [show c0 x y = true from q0, show c6 x y = true from q6, show c7 x y = true from q7, show c8 x y = true from q8, show c9 x y = true from q9, show (D == E) = true from qd, show c11 x y = true from q11, show c12 x y = true from q12, show c17 x y = false from q17, Bool.true_and, Bool.and_true, Bool.false_and, Bool.and_false]).symm, H.ext⟩
  refine H.ld 0 rfl (at22 _) ?_
  refine H.ld 0 rfl (at23 _) ?_
  refine H.ld 0 rfl (at24 _) ?_
  refine H.ld 0 rfl (at25 _) ?_
  refine H.ld 0 rfl (at26 _) ?_
  refine H.ld 0 rfl (at27 _) ?_
  refine H.ld 0 rfl (at28 _) ?_
  refine H.ld 0 rfl (at29 _) ?_
  refine H.ld 1 rfl (at22 _) ?_
  refine H.ld 1 rfl (at23 _) ?_
  refine H.ld 1 rfl (at24 _) ?_
  refine H.ld 1 rfl (at25 _) ?_
  refine H.ld 1 rfl (at26 _) ?_
  refine H.ld 1 rfl (at27 _) ?_
  refine H.ld 1 rfl (at28 _) ?_
  refine H.ld 1 rfl (at29 _) ?_
  refine Lt.of ?_
  refine ⟨?_, H.ext⟩
  symm
  show sameB x y D E = c22 x y
  unfold sameB
  simp only [show c0 x y = true from q0, show c6 x y = true from q6, show c7 x y = true from q7, show c8 x y = true from q8, show c9 x y = true from q9, show (D == E) = true from qd, show c11 x y = true from q11, show c12 x y = true from q12, show c17 x y = true from q17, Bool.true_and, Bool.and_true]
theorem r_same (hx : IV w (dsh x) D) (hy : IV w (dsh y) E) (hl : D.length ≤ 1000000) : C50 x y w fun r w1 => r = sameB x y D E ∧ Ext (fun _ => False) w w1 := by
  refine T50 _ _ _ _ ?_
  unfold S50
  refine (Hn.start w).nw fun w2 H => ?_
  refine H.nw fun w3 H => ?_
  simp only [List.cons_append, List.nil_append, add_lit, Nat.zero_add] at H ⊢
  refine H.ld 0 rfl (at10 _) ?_
  refine H.ld 1 rfl (at10 _) ?_
  have h1 : ((x.2.2.2.2.2.2.2.2.2.2.1.len : Nat) : Int) = (D.length : Int) := congrArg _ hx.1
  have h2 : ((y.2.2.2.2.2.2.2.2.2.2.1.len : Nat) : Int) = (E.length : Int) := congrArg _ hy.1
  rw [h1, h2]
  refine Br.ne (fun q => ⟨?_, H.ext⟩) fun q => Join.intro ?_
  · have qd : (D == E) = false := by
      rw [beq_eq_false_iff_ne]
      rintro rfl
      exact q rfl
    exact (show sameB x y D E = false from by unfold sameB; rw [qd, Bool.and_false]).symm
  have hDE : D.length = E.length := by omega
  have rest : (D == E) = true → ∀ w4, Ext (fun _ => False) w3 w4 → S50J1 w w2 (fun r w1 => r = sameB x y D E ∧ Ext (fun _ => False) w w1) () w4 := by
    intro qd w4 e4
    have H := H.keep e4
    unfold S50J1
    simp only [add_lit, Nat.zero_add]
    refine H.ld 0 rfl (at0 _) ?_
    refine H.ld 0 rfl (at1 _) ?_
    refine H.ld 0 rfl (at2 _) ?_
    refine H.ld 0 rfl (at3 _) ?_
    refine H.ld 0 rfl (at4 _) ?_
    refine H.ld 0 rfl (at5 _) ?_
    refine H.ld 1 rfl (at0 _) ?_
    refine H.ld 1 rfl (at1 _) ?_
    refine H.ld 1 rfl (at2 _) ?_
    refine H.ld 1 rfl (at3 _) ?_
    refine H.ld 1 rfl (at4 _) ?_
    refine H.ld 1 rfl (at5 _) ?_
    refine Lt.of ?_
    refine BrV (fun q0 => ?_) fun q0 => ⟨(show sameB x y D E = false from by unfold sameB; simp only [show (D == E) = true from qd, show c0 x y = false from q0, Bool.true_and, Bool.and_true, Bool.false_and, Bool.and_false]).symm, H.ext⟩
    refine H.ld 0 rfl (at6 _) ?_
    refine H.ld 1 rfl (at6 _) ?_
    refine BrV (fun q6 => ?_) fun q6 => ⟨(show sameB x y D E = false from by unfold sameB; simp only [show (D == E) = true from qd, show c0 x y = true from q0, show c6 x y = false from q6, Bool.true_and, Bool.and_true, Bool.false_and, Bool.and_false]).symm, H.ext⟩
    refine H.ld 0 rfl (at7 _) ?_
    refine H.ld 1 rfl (at7 _) ?_
    refine BrV (fun q7 => ?_) fun q7 => ⟨(show sameB x y D E = false from by unfold sameB; simp only [show (D == E) = true from qd, show c0 x y = true from q0, show c6 x y = true from q6, show c7 x y = false from q7, Bool.true_and, Bool.and_true, Bool.false_and, Bool.and_false]).symm, H.ext⟩
    refine H.ld 0 rfl (at8 _) ?_
    refine H.ld 1 rfl (at8 _) ?_
    refine BrV (fun q8 => ?_) fun q8 => ⟨(show sameB x y D E = false from by unfold sameB; simp only [show (D == E) = true from qd, show c0 x y = true from q0, show c6 x y = true from q6, show c7 x y = true from q7, show c8 x y = false from q8, Bool.true_and, Bool.and_true, Bool.false_and, Bool.and_false]).symm, H.ext⟩
    refine H.ld 0 rfl (at9 _) ?_
    refine H.ld 1 rfl (at9 _) ?_
    refine BrV (fun q9 => ?_) fun q9 => ⟨(show sameB x y D E = false from by unfold sameB; simp only [show (D == E) = true from qd, show c0 x y = true from q0, show c6 x y = true from q6, show c7 x y = true from q7, show c8 x y = true from q8, show c9 x y = false from q9, Bool.true_and, Bool.and_true, Bool.false_and, Bool.and_false]).symm, H.ext⟩
    refine H.ld 0 rfl (at11 _) ?_
    refine H.ld 1 rfl (at11 _) ?_
    refine BrV (fun q11 => ?_) fun q11 => ⟨(show sameB x y D E = false from by unfold sameB; simp only [show (D == E) = true from qd, show c0 x y = true from q0, show c6 x y = true from q6, show c7 x y = true from q7, show c8 x y = true from q8, show c9 x y = true from q9, show c11 x y = false from q11, Bool.true_and, Bool.and_true, Bool.false_and, Bool.and_false]).symm, H.ext⟩
    refine H.ld 0 rfl (at12 _) ?_
    refine H.ld 0 rfl (at13 _) ?_
    refine H.ld 0 rfl (at14 _) ?_
    refine H.ld 0 rfl (at15 _) ?_
    refine H.ld 0 rfl (at16 _) ?_
    refine H.ld 1 rfl (at12 _) ?_
    refine H.ld 1 rfl (at13 _) ?_
    refine H.ld 1 rfl (at14 _) ?_
    refine H.ld 1 rfl (at15 _) ?_
    refine H.ld 1 rfl (at16 _) ?_
    refine Lt.of ?_
    refine BrV (fun q12 => ?_) fun q12 => ⟨(show sameB x y D E = false from by unfold sameB; simp only [show (D == E) = true from qd, show c0 x y = true from q0, show c6 x y = true from q6, show c7 x y = true from q7, show c8 x y = true from q8, show c9 x y = true from q9, show c11 x y = true from q11, show c12 x y = false from q12, Bool.true_and, Bool.and_true, Bool.false_and, Bool.and_false]).symm, H.ext⟩
    refine H.ld 0 rfl (at17 _) ?_
    refine H.ld 0 rfl (at18 _) ?_
    refine H.ld 0 rfl (at19 _) ?_
    refine H.ld 0 rfl (at20 _) ?_
    refine H.ld 0 rfl (at21 _) ?_
    refine H.ld 1 rfl (at17 _) ?_
    refine H.ld 1 rfl (at18 _) ?_
    refine H.ld 1 rfl (at19 _) ?_
    refine H.ld 1 rfl (at20 _) ?_
    refine H.ld 1 rfl (at21 _) ?_
    refine Lt.of ?_
    refine BrV (fun q17 => ?_) fun q17 => ⟨(show sameB x y D E = false from by unfold sameB; simp only [show (D == E) = true from qd, show c0 x y = true from q0, show c6 x y = true from q6, show c7 x y = true from q7, show c8 x y = true from q8, show c9 x y = true from q9, show c11 x y = true from q11, show c12 x y = true from q12, show c17 x y = false from q17, Bool.true_and, Bool.and_true, Bool.false_and, Bool.and_false]).symm, H.ext⟩
    refine H.ld 0 rfl (at22 _) ?_
    refine H.ld 0 rfl (at23 _) ?_
    refine H.ld 0 rfl (at24 _) ?_
    refine H.ld 0 rfl (at25 _) ?_
    refine H.ld 0 rfl (at26 _) ?_
    refine H.ld 0 rfl (at27 _) ?_
    refine H.ld 0 rfl (at28 _) ?_
    refine H.ld 0 rfl (at29 _) ?_
    refine H.ld 1 rfl (at22 _) ?_
    refine H.ld 1 rfl (at23 _) ?_
    refine H.ld 1 rfl (at24 _) ?_
    refine H.ld 1 rfl (at25 _) ?_
    refine H.ld 1 rfl (at26 _) ?_
    refine H.ld 1 rfl (at27 _) ?_
    refine H.ld 1 rfl (at28 _) ?_
    refine H.ld 1 rfl (at29 _) ?_
    refine Lt.of ?_
    refine ⟨?_, H.ext⟩
    symm
    show sameB x y D E = c22 x y
    unfold sameB
    simp only [show (D == E) = true from qd, show c0 x y = true from q0, show c6 x y = true from q6, show c7 x y = true from q7, show c8 x y = true from q8, show c9 x y = true from q9, show c11 x y = true from q11, show c12 x y = true from q12, show c17 x y = true from q17, Bool.true_and, Bool.and_true]
  refine ⟨fun n st w4 => ∃ i : Nat, st = (i : Int) ∧ i ≤ D.length ∧ n = D.length - i ∧ (∀ j, j < i → D.getD j 0 = E.getD j 0) ∧ Ext (fun _ => False) w3 w4, D.length, ⟨0, rfl, by omega, rfl, fun j hj => by omega, Ext.refl _ _⟩, ?_⟩
  rintro n st w4 ⟨i, rfl, hi, rfl, hall, e4⟩
  unfold S50L1
  simp only [add_lit, Nat.zero_add]
  have H4 := H.keep e4
  refine H4.ld 0 rfl (at10 _) ?_
  rw [h1]
  refine Br.dec (fun q1 => H4.ld 1 rfl (at10 _) ?_) fun q1 => rest ?_ w4 e4
  · rw [h2]
    refine Br.dec (fun q2 => ?_) fun q2 => absurd q1 (by omega)
    have H5 := H4.drew
    refine H5.ld 0 rfl (at10 _) ?_
    obtain ⟨a1, ha1, g1⟩ := (hx.keep H5.ext).get (i := i) (by omega)
    obtain ⟨a2, ha2, g2⟩ := (hy.keep H5.ext).get (i := i) (by omega)
    have ha1 : x.2.2.2.2.2.2.2.2.2.2.1.p = some a1 := ha1
    have ha2 : y.2.2.2.2.2.2.2.2.2.2.1.p = some a2 := ha2
    rw [h1, ha1, Int.toNat_natCast]
    refine ⟨by omega, by omega, Nn.of (Ld.mk g1 (H5.ld 1 rfl (at10 _) ?_))⟩
    rw [h2, ha2]
    refine ⟨by omega, by omega, Nn.of (Ld.mk g2 (Br.ne (fun q3 => ⟨?_, H5.ext⟩) fun q3 => ?_))⟩
    · have qd : (D == E) = false := by
        rw [beq_eq_false_iff_ne]
        rintro rfl
        exact q3 rfl
      exact (show sameB x y D E = false from by unfold sameB; rw [qd, Bool.and_false]).symm
    · refine ⟨D.length - (i + 1), by omega, i + 1, by rw [i64_id (by omega)]; rfl, by omega, rfl, fun j hj => ?_, e4.drew⟩
      by_cases e : j = i
      · subst e
        exact q3
      · exact hall j (by omega)
  · rw [beq_iff_eq]
    exact getD_eqI hDE fun j hj => hall j (by omega)
end
end Ste
end Go.Proofs.YtjbeembbnkmpeaaDoor

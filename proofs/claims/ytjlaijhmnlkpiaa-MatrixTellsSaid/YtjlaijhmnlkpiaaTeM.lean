/- MatrixTells: the walk. Conditions: none. -/
import Derived.Test.YtjlaijhmnlkpiaaObA
import Derived.Test.YtjlaijhmnlkpiaaFnTellM
namespace Go.Proofs.Ytjlaijhmnlkpiaa
namespace Mat
open Sh Fix
set_option linter.unusedVariables false
set_option linter.unusedSimpArgs false
set_option maxRecDepth 100000
set_option maxHeartbeats 4000000
abbrev prow (p : Int × Int) : List Value := [.int .i64 p.1, .int .i64 p.2]
attribute [local irreducible] Ld St Nw Nn Lt LdS
theorem tells_law (a b : Mx) (p : Int × Int) (r : Int × Int × Int × Int) (o : Ob) {d : Nat} (w : World) (hO : OT w d o) (ha : i64M a) : C3 a b p r o w fun r w1 => r = true ∧ Ext (fun _ => False) w w1 := by
  obtain ⟨d, rfl⟩ : ∃ d', d = d' + 1 := by
    cases d with
    | zero => exact hO.elim
    | succ d => exact ⟨d, rfl⟩
  have hO' := hO
  obtain ⟨_, L, _, hL, _⟩ := hO'
  refine T3 a b p r o _ _ ?_
  unfold S3
  refine (Hn.start w).nw fun w2 H => H.nw fun w3 H => H.nw fun w4 H => H.nw fun w5 H => H.nw fun w6 H => ?_
  simp only [List.nil_append, List.cons_append, List.set_cons_zero, List.set_cons_succ, Nat.zero_add] at H
  iterate 6 refine H.ld 4 rfl rfl ?_
  refine (c_size (d + 1) o _ hO H.ext).mono ?_
  intro z w7 he
  have H := H.keep he
  refine Br.dec (fun _ => (c_lives _).mono ?_) fun _ => ?_
  · rintro x w8 ⟨rfl, he⟩
    exact ⟨rfl, (H.keep he).ext⟩
  iterate 6 refine H.ld 0 rfl rfl ?_
  iterate 6 refine H.ld 1 rfl rfl ?_
  refine (c_mul a b _).mono ?_
  rintro m1 e1 w8 ⟨h1, he⟩
  have H := H.keep he
  refine H.nw fun w9 H => ?_
  simp only [List.nil_append, List.cons_append, List.set_cons_zero, List.set_cons_succ, Nat.zero_add] at H
  iterate 6 (refine H.st 5 rfl (by simp) fun _ H => ?_; simp only [List.nil_append, List.cons_append, List.set_cons_zero, List.set_cons_succ, Nat.zero_add] at H)
  iterate 6 refine H.ld 0 rfl rfl ?_
  iterate 6 refine H.ld 1 rfl rfl ?_
  refine (r_mul a b _).mono ?_
  rintro m2 e2 w10 ⟨h2, he⟩
  have H := H.keep he
  obtain ⟨rfl, rfl⟩ := Prod.mk.inj (h1.trans h2.symm)
  refine H.nw fun w11 H => ?_
  simp only [List.nil_append, List.cons_append, List.set_cons_zero, List.set_cons_succ, Nat.zero_add] at H
  iterate 6 (refine H.st 6 rfl (by simp) fun _ H => ?_; simp only [List.nil_append, List.cons_append, List.set_cons_zero, List.set_cons_succ, Nat.zero_add] at H)
  iterate 6 refine H.ld 0 rfl rfl ?_
  iterate 2 refine H.ld 2 rfl rfl ?_
  refine (c_apply a p _).mono ?_
  rintro q1 e3 w12 ⟨h3, he⟩
  have H := H.keep he
  refine H.nw fun w13 H => ?_
  simp only [List.nil_append, List.cons_append, List.set_cons_zero, List.set_cons_succ, Nat.zero_add] at H
  iterate 2 (refine H.st 7 rfl (by simp) fun _ H => ?_; simp only [List.nil_append, List.cons_append, List.set_cons_zero, List.set_cons_succ, Nat.zero_add] at H)
  iterate 6 refine H.ld 0 rfl rfl ?_
  iterate 2 refine H.ld 2 rfl rfl ?_
  refine (r_apply a p _).mono ?_
  rintro q2 e4 w14 ⟨h4, he⟩
  have H := H.keep he
  obtain ⟨rfl, rfl⟩ := Prod.mk.inj (h3.trans h4.symm)
  refine H.nw fun w15 H => ?_
  simp only [List.nil_append, List.cons_append, List.set_cons_zero, List.set_cons_succ, Nat.zero_add] at H
  iterate 2 (refine H.st 8 rfl (by simp) fun _ H => ?_; simp only [List.nil_append, List.cons_append, List.set_cons_zero, List.set_cons_succ, Nat.zero_add] at H)
  iterate 6 refine H.ld 0 rfl rfl ?_
  iterate 2 refine H.ld 2 rfl rfl ?_
  refine (c_length a p _).mono ?_
  rintro n1 e5 w16 ⟨h5, he⟩
  have H := H.keep he
  iterate 6 refine H.ld 0 rfl rfl ?_
  iterate 2 refine H.ld 2 rfl rfl ?_
  refine (r_length a p _).mono ?_
  rintro n2 e6 w17 ⟨h6, he⟩
  have H := H.keep he
  obtain ⟨rfl, rfl⟩ := Prod.mk.inj (isLen_eq h5 h6)
  iterate 6 refine H.ld 0 rfl rfl ?_
  iterate 4 refine H.ld 3 rfl rfl ?_
  refine (c_box a r _).mono ?_
  rintro b1 e7 w18 ⟨h7, he⟩
  have H := H.keep he
  refine H.nw fun w19 H => ?_
  simp only [List.nil_append, List.cons_append, List.set_cons_zero, List.set_cons_succ, Nat.zero_add] at H
  iterate 4 (refine H.st 9 rfl (by simp) fun _ H => ?_; simp only [List.nil_append, List.cons_append, List.set_cons_zero, List.set_cons_succ, Nat.zero_add] at H)
  iterate 6 refine H.ld 0 rfl rfl ?_
  iterate 4 refine H.ld 3 rfl rfl ?_
  refine (r_box a r _).mono ?_
  rintro b2 e8 w20 ⟨h8, he⟩
  have H := H.keep he
  obtain ⟨rfl, rfl⟩ := Prod.mk.inj (h7.trans h8.symm)
  refine H.nw fun w21 H => ?_
  simp only [List.nil_append, List.cons_append, List.set_cons_zero, List.set_cons_succ, Nat.zero_add] at H
  iterate 4 (refine H.st 10 rfl (by simp) fun _ H => ?_; simp only [List.nil_append, List.cons_append, List.set_cons_zero, List.set_cons_succ, Nat.zero_add] at H)
  iterate 6 refine H.ld 4 rfl rfl ?_
  refine (c_read (o := o) (hL.keep H.ext)).mono ?_
  rintro m3 e9 w22 ⟨h9, he⟩
  have H := H.keep he
  refine H.nw fun w23 H => ?_
  simp only [List.nil_append, List.cons_append, List.set_cons_zero, List.set_cons_succ, Nat.zero_add] at H
  iterate 6 (refine H.st 11 rfl (by simp) fun _ H => ?_; simp only [List.nil_append, List.cons_append, List.set_cons_zero, List.set_cons_succ, Nat.zero_add] at H)
  iterate 6 refine H.ld 4 rfl rfl ?_
  refine (r_read (o := o) (hL.keep H.ext)).mono ?_
  rintro m4 e10 w24 ⟨h10, he⟩
  have H := H.keep he
  obtain ⟨rfl, rfl⟩ := Prod.mk.inj (h9.trans h10.symm)
  refine H.nw fun w25 H => ?_
  simp only [List.nil_append, List.cons_append, List.set_cons_zero, List.set_cons_succ, Nat.zero_add] at H
  iterate 6 (refine H.st 12 rfl (by simp) fun _ H => ?_; simp only [List.nil_append, List.cons_append, List.set_cons_zero, List.set_cons_succ, Nat.zero_add] at H)
  iterate 6 refine H.ld 5 rfl rfl ?_
  iterate 6 refine H.ld 6 rfl rfl ?_
  refine Lt.of (Br.f (by simp) (Br.f (by simp) ?_))
  iterate 2 refine H.ld 7 rfl rfl ?_
  iterate 2 refine H.ld 8 rfl rfl ?_
  refine Br.f (by simp) (Br.f (by simp) (Br.f (by simp) (Br.f (by simp) ?_)))
  iterate 4 refine H.ld 9 rfl rfl ?_
  iterate 4 refine H.ld 10 rfl rfl ?_
  refine Br.f (by simp) (Br.f (by simp) ?_)
  iterate 6 refine H.ld 11 rfl rfl ?_
  iterate 6 refine H.ld 12 rfl rfl ?_
  refine Lt.of (Br.f (by simp) (Br.f (by simp) ?_))
  rename_i w26
  obtain ⟨base, hbase, hb0, hb2⟩ : ∃ base : List (Nat × List Value × TypeId), Hn w w26 base ∧ base[0]? = some (w.heap.size, mrow a, 23) ∧ base[2]? = some (w3.heap.size, prow p, 25) := ⟨_, H, rfl, rfl⟩
  have hS0 : ∀ w3, Hn w w3 base → Blk w3 w.heap.size (mrow a).toArray 23 := fun w3 h => h.get 0 hb0
  have hS2 : ∀ w4, Hn w w4 base → Blk w4 w3.heap.size (prow p).toArray 25 := fun w3 h => h.get 2 hb2
  refine (c_one _).mono ?_
  rintro x1 w27 ⟨rfl, he⟩
  have H := hbase.drew.keep he
  refine (r_one _).mono ?_
  rintro x2 w28 ⟨rfl, he⟩
  have H := H.keep he
  refine ⟨fun w3 => Hn w w3 base, H, Br.t (by simp) ?_⟩
  iterate 12 refine LdS.of hS0 rfl ?_
  refine (c_check a _).mono ?_
  rintro x3 w29 ⟨rfl, he⟩
  have H := H.keep he
  refine ⟨H, (r_check a _).mono ?_⟩
  rintro x4 w30 ⟨rfl, he⟩
  have H := H.keep he
  refine ⟨fun w3 => Hn w w3 base, H, Br.t (by simp) ?_⟩
  iterate 4 refine LdS.of hS2 rfl ?_
  refine (c_move p.1 p.2 _).mono ?_
  rintro x5 w31 ⟨rfl, he⟩
  have H := H.keep he
  refine ⟨H, (r_move p.1 p.2 _).mono ?_⟩
  rintro x6 w32 ⟨rfl, he⟩
  have H := H.keep he
  refine ⟨fun w3 => Hn w w3 base, H, Br.t (by simp) ?_⟩
  iterate 4 refine LdS.of hS2 rfl ?_
  refine (c_scale p.1 p.2 _).mono ?_
  rintro x7 w33 ⟨rfl, he⟩
  have H := H.keep he
  refine ⟨H, (r_scale p.1 p.2 _).mono ?_⟩
  rintro x8 w34 ⟨rfl, he⟩
  have H := H.keep he
  refine ⟨fun w3 => Hn w w3 base, H, Br.t (by simp) ?_⟩
  iterate 12 refine LdS.of hS0 rfl ?_
  refine (c_objectC ha _).mono ?_
  rintro x9 w35 ⟨g1, rfl, hg1, _, he⟩
  have H := H.keep he
  refine ⟨H, (r_objectC ha _).mono ?_⟩
  rintro x10 w36 ⟨g2, rfl, hg2, _, he⟩
  have H := H.keep he
  refine (c_same (L := (comps a).map numO) ((OV.of hg1).keep he) (OV.of hg2) (fun o ho => by obtain ⟨x, _, rfl⟩ := List.mem_map.1 ho; exact num_leaf x) (by show 6 ≤ 1000000; omega)).mono ?_
  rintro x11 w37 ⟨rfl, he⟩
  have H := H.keep he
  refine Br.t rfl ((c_lives _).mono ?_)
  rintro x12 w38 ⟨rfl, he⟩
  exact ⟨rfl, (H.keep he).ext⟩
end Mat
end Go.Proofs.Ytjlaijhmnlkpiaa

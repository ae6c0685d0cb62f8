/- lives(), whole() and near() of the statements on matrices. Conditions: none. -/
import Derived.Test.YtjlaijhmnlkpiaaObM
import Derived.Test.YtjlaijhmnlkpiaaFnLawM
namespace Go.Proofs.Ytjlaijhmnlkpiaa
namespace Mat
open Sh Fix
set_option linter.unusedVariables false
set_option linter.unusedSimpArgs false
set_option maxRecDepth 4000
set_option maxHeartbeats 1000000
theorem Br.t {b : Bool} {A B : Prop} (h : b = true) (k : A) : Br b A B := by rw [h]; exact k
theorem Br.f {b : Bool} {A B : Prop} (h : b = false) (k : B) : Br b A B := by rw [h]; exact k
theorem Hn.fresh {w0 w : World} {L : List (Nat × List Value × TypeId)} {g : Nat} (h : Hn w0 w L) (hg : w.heap.size ≤ g) : g ∉ L.map (·.1) := fun hm => by
  have := h.all_lt hm
  omega
theorem lv_mul : mulP (moveM 1 2) (scaleM 20000 30000) = some (20000, 0, 0, 30000, 2, 6) := by decide
theorem lv_app : applyP (0, 10000, -10000, 0, 0, 0) (5, 7) = some (-7, 5) := by decide
theorem lv_len : IsLen (scaleM 30000 40000) (10, 10) (50, 0) := by
  unfold IsLen
  rw [show applyP (flat (scaleM 30000 40000)) (10, 10) = some (30, 40) by decide]
  exact ⟨50, by unfold isRoot; decide, by decide⟩
theorem lv_box : boxK (scaleM (-10000) 10000) (1, 2, 3, 4) 3 = some (-3, 2, -1, 4) := by decide
theorem lv_big : mulP (1073741825, 0, 0, 0, 0, 0) one = none := by decide
theorem lv_far : applyP one (1073741825, 0) = none := by decide
theorem lv_out : applyP (moveM 1 0) (1073741824, 0) = none := by decide
abbrev lvM : Mx := (15000, 0, 0, 0, 0, -20000)
theorem lv_read {s : Slc} : readF (6, 0, 0, ⟨#[]⟩, nilS, s) ((comps lvM).map numO) = (lvM, 0) := by rfl
attribute [local irreducible] Ld St Nw Nn Lt LdS
theorem c_lives (w : World) : C13 w fun r w1 => r = true ∧ Ext (fun _ => False) w w1 := by
  refine T13 _ _ ?_
  unfold S13
  have H := Hn.start w
  refine (c_move 1 2 _).mono ?_
  rintro _ _ ⟨rfl, he⟩
  have H := H.keep he
  refine (c_scale 20000 30000 _).mono ?_
  rintro _ _ ⟨rfl, he⟩
  have H := H.keep he
  refine (c_mul (moveM 1 2) (scaleM 20000 30000) _).mono ?_
  rintro r e w1 ⟨hr, he⟩
  have H := H.keep he
  rw [lv_mul] at hr
  cases hr
  dsimp only
  refine H.nw fun _ H => ?_
  simp only [List.nil_append, List.cons_append, List.set_cons_zero, List.set_cons_succ, Nat.zero_add] at H
  iterate 6 (refine H.st 0 rfl (by simp) fun _ H => ?_; simp only [List.nil_append, List.cons_append, List.set_cons_zero, List.set_cons_succ, Nat.zero_add] at H)
  refine (c_apply (0, 10000, -10000, 0, 0, 0) (5, 7) _).mono ?_
  rintro r e w1 ⟨hr, he⟩
  have H := H.keep he
  rw [lv_app] at hr
  cases hr
  dsimp only
  refine H.nw fun _ H => ?_
  simp only [List.nil_append, List.cons_append, List.set_cons_zero, List.set_cons_succ, Nat.zero_add] at H
  iterate 2 (refine H.st 1 rfl (by simp) fun _ H => ?_; simp only [List.nil_append, List.cons_append, List.set_cons_zero, List.set_cons_succ, Nat.zero_add] at H)
  refine (c_scale 30000 40000 _).mono ?_
  rintro _ _ ⟨rfl, he⟩
  have H := H.keep he
  refine (c_length (scaleM 30000 40000) (10, 10) _).mono ?_
  rintro r e w1 ⟨hr, he⟩
  have H := H.keep he
  have hr := isLen_eq hr lv_len
  cases hr
  refine (c_scale (-10000) 10000 _).mono ?_
  rintro _ _ ⟨rfl, he⟩
  have H := H.keep he
  refine (c_box (scaleM (-10000) 10000) (1, 2, 3, 4) _).mono ?_
  rintro r e w1 ⟨hr, he⟩
  have H := H.keep he
  rw [lv_box] at hr
  cases hr
  dsimp only
  refine H.nw fun _ H => ?_
  simp only [List.nil_append, List.cons_append, List.set_cons_zero, List.set_cons_succ, Nat.zero_add] at H
  iterate 4 (refine H.st 2 rfl (by simp) fun _ H => ?_; simp only [List.nil_append, List.cons_append, List.set_cons_zero, List.set_cons_succ, Nat.zero_add] at H)
  refine (c_one  _).mono ?_
  rintro _ _ ⟨rfl, he⟩
  have H := H.keep he
  refine (c_mul (1073741825, 0, 0, 0, 0, 0) one _).mono ?_
  rintro r e w1 ⟨hr, he⟩
  have H := H.keep he
  rw [lv_big] at hr
  cases hr
  dsimp only
  refine H.nw fun _ H => ?_
  simp only [List.nil_append, List.cons_append, List.set_cons_zero, List.set_cons_succ, Nat.zero_add] at H
  iterate 6 (refine H.st 3 rfl (by simp) fun _ H => ?_; simp only [List.nil_append, List.cons_append, List.set_cons_zero, List.set_cons_succ, Nat.zero_add] at H)
  refine (c_one  _).mono ?_
  rintro _ _ ⟨rfl, he⟩
  have H := H.keep he
  refine (c_apply one (1073741825, 0) _).mono ?_
  rintro r e w1 ⟨hr, he⟩
  have H := H.keep he
  rw [lv_far] at hr
  cases hr
  dsimp only
  refine H.nw fun _ H => ?_
  simp only [List.nil_append, List.cons_append, List.set_cons_zero, List.set_cons_succ, Nat.zero_add] at H
  iterate 2 (refine H.st 4 rfl (by simp) fun _ H => ?_; simp only [List.nil_append, List.cons_append, List.set_cons_zero, List.set_cons_succ, Nat.zero_add] at H)
  refine (c_move 1 0 _).mono ?_
  rintro _ _ ⟨rfl, he⟩
  have H := H.keep he
  refine (c_apply (moveM 1 0) (1073741824, 0) _).mono ?_
  rintro r e w1 ⟨hr, he⟩
  have H := H.keep he
  rw [lv_out] at hr
  cases hr
  dsimp only
  refine H.nw fun _ H => ?_
  simp only [List.nil_append, List.cons_append, List.set_cons_zero, List.set_cons_succ, Nat.zero_add] at H
  iterate 2 (refine H.st 5 rfl (by simp) fun _ H => ?_; simp only [List.nil_append, List.cons_append, List.set_cons_zero, List.set_cons_succ, Nat.zero_add] at H)
  refine (c_read (o := (0, 0, 0, ⟨#[]⟩, nilS, nilS)) (L := []) (OV.nil _)).mono ?_
  rintro r e w1 ⟨hr, he⟩
  have H := H.keep he
  rw [show readF (0, 0, 0, ⟨#[]⟩, nilS, nilS) [] = ((0, 0, 0, 0, 0, 0), 10) from rfl] at hr
  cases hr
  dsimp only
  refine H.nw fun _ H => ?_
  simp only [List.nil_append, List.cons_append, List.set_cons_zero, List.set_cons_succ, Nat.zero_add] at H
  iterate 6 (refine H.st 6 rfl (by simp) fun _ H => ?_; simp only [List.nil_append, List.cons_append, List.set_cons_zero, List.set_cons_succ, Nat.zero_add] at H)
  refine (c_read (o := (6, 0, 0, ⟨#[]⟩, nilS, nilS)) (L := []) (OV.nil _)).mono ?_
  rintro r e w1 ⟨hr, he⟩
  have H := H.keep he
  rw [show readF (6, 0, 0, ⟨#[]⟩, nilS, nilS) [] = ((0, 0, 0, 0, 0, 0), 3) from rfl] at hr
  cases hr
  dsimp only
  refine H.nw fun _ H => ?_
  simp only [List.nil_append, List.cons_append, List.set_cons_zero, List.set_cons_succ, Nat.zero_add] at H
  iterate 6 (refine H.st 7 rfl (by simp) fun _ H => ?_; simp only [List.nil_append, List.cons_append, List.set_cons_zero, List.set_cons_succ, Nat.zero_add] at H)
  refine (c_objectC (m := lvM) (by unfold i64M; decide) _).mono ?_
  rintro r w1 ⟨g, rfl, hb, hg, he⟩
  have hne := Hn.fresh H hg
  have H := (H.keep he).push hb (Nat.le_trans H.size hg) hne
  dsimp only
  refine H.nw fun _ H => ?_
  simp only [List.nil_append, List.cons_append, List.set_cons_zero, List.set_cons_succ, Nat.zero_add] at H
  iterate 6 (refine H.st 9 rfl (by simp) fun _ H => ?_; simp only [List.nil_append, List.cons_append, List.set_cons_zero, List.set_cons_succ, Nat.zero_add] at H)
  iterate 6 refine H.ld 9 rfl rfl ?_
  refine (c_read (o := (6, 0, 0, ⟨#[]⟩, nilS, rowS g 6)) (L := (comps lvM).map numO) (OV.of (H.get 8 rfl))).mono ?_
  rintro r e w1 ⟨hr, he⟩
  have H := H.keep he
  rw [lv_read] at hr
  cases hr
  dsimp only
  refine H.nw fun _ H => ?_
  simp only [List.nil_append, List.cons_append, List.set_cons_zero, List.set_cons_succ, Nat.zero_add] at H
  iterate 6 (refine H.st 10 rfl (by simp) fun _ H => ?_; simp only [List.nil_append, List.cons_append, List.set_cons_zero, List.set_cons_succ, Nat.zero_add] at H)
  iterate 6 refine H.ld 0 rfl rfl ?_
  refine Lt.of ?_
  refine Br.f rfl ?_
  refine Br.f rfl ?_
  iterate 2 refine H.ld 1 rfl rfl ?_
  refine Br.f rfl ?_
  refine Br.f rfl ?_
  refine Br.f rfl ?_
  refine Br.f rfl ?_
  iterate 4 refine H.ld 2 rfl rfl ?_
  refine Br.f rfl ?_
  refine Br.f rfl ?_
  refine Br.f rfl ?_
  refine Br.f rfl ?_
  refine Br.f rfl ?_
  refine Br.f rfl ?_
  refine Br.f rfl ?_
  -- the object
  iterate 1 refine H.ld 9 rfl rfl ?_
  refine Br.t rfl ?_
  iterate 1 refine H.ld 9 rfl rfl ?_
  refine ⟨by decide, by show _ < ((6 : Nat) : Int); decide, Nn.of (H.ld 8 rfl rfl ?_)⟩
  refine Br.t rfl ?_
  iterate 1 refine H.ld 9 rfl rfl ?_
  refine ⟨by decide, by show _ < ((6 : Nat) : Int); decide, Nn.of (H.ld 8 rfl rfl ?_)⟩
  refine Br.t rfl ?_
  iterate 1 refine H.ld 9 rfl rfl ?_
  refine ⟨by decide, by show _ < ((6 : Nat) : Int); decide, Nn.of (H.ld 8 rfl rfl ?_)⟩
  refine Br.t rfl ?_
  iterate 1 refine H.ld 9 rfl rfl ?_
  refine ⟨by decide, by show _ < ((6 : Nat) : Int); decide, Nn.of (H.ld 8 rfl rfl ?_)⟩
  refine Br.t rfl ?_
  iterate 6 refine H.ld 10 rfl rfl ?_
  refine Lt.of ?_
  refine Br.t rfl ?_
  refine Br.t rfl ?_
  refine (c_one  _).mono ?_
  rintro _ _ ⟨rfl, he⟩
  have H := H.keep he
  refine (c_check one _).mono ?_
  rintro r w1 ⟨rfl, he⟩
  exact ⟨by decide, (H.keep he).ext⟩
end Mat
end Go.Proofs.Ytjlaijhmnlkpiaa

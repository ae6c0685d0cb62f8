/- Shown strings: what gives up; a state's check; lengths, widths and steps. Conditions: sizes. -/
import Derived.Test.YtcblpehnkogfdaaDoorSwA
namespace Go.Proofs.YtcblpehnkogfdaaDoor
namespace Sw
open Sh Mat Fix Fo
set_option linter.unusedVariables false
set_option linter.unusedSimpArgs false
set_option maxRecDepth 4000
set_option maxHeartbeats 2000000
attribute [local irreducible] Ld St Nw Nn Lt LdS
/-- The panic of this package. -/
def gup (e : Int) : Value := .iface 78 (.agg #[.int .i64 e])
theorem c_need (b : Bool) (e : Int) (w : World) : C34 b e w (fun w1 => b = true ∧ w1 = w) fun v w1 => v = gup e ∧ b = false ∧ w1 = w := by
  refine T34 _ _ _ _ _ ?_
  unfold S34
  cases b with
  | true => exact Br.f rfl ⟨rfl, rfl⟩
  | false => exact Br.t rfl ⟨rfl, rfl, rfl⟩
theorem c_mustI (x e : Int) (w : World) : C43 x e w (fun r w1 => r = x ∧ e = 0 ∧ w1 = w) fun v w1 => v = gup e ∧ e ≠ 0 ∧ w1 = w := by
  refine T43 _ _ _ _ _ ?_
  unfold S43
  exact (c_need _ e w).mono (fun w1 h => ⟨rfl, by simpa using h.1, h.2⟩) fun v w1 h => ⟨h.1, by simpa using h.2.1, h.2.2⟩
theorem c_mustS (x : Slc) (e : Int) (w : World) : C33 x e w (fun r w1 => r = x ∧ e = 0 ∧ w1 = w) fun v w1 => v = gup e ∧ e ≠ 0 ∧ w1 = w := by
  refine T33 _ _ _ _ _ ?_
  unfold S33
  exact (c_need _ e w).mono (fun w1 h => ⟨rfl, by simpa using h.1, h.2⟩) fun v w1 h => ⟨h.1, by simpa using h.2.1, h.2.2⟩
theorem c_mustP (x : Int × Int) (e : Int) (w : World) : C52 x e w (fun r w1 => r = x ∧ e = 0 ∧ Ext (fun _ => False) w w1) fun v w1 => v = gup e ∧ e ≠ 0 ∧ Ext (fun _ => False) w w1 := by
  refine T52 _ _ _ _ _ ?_
  unfold S52
  refine (Hn.start w).nw fun w3 H => H.nw fun w4 H => ?_
  refine (c_need _ e _).mono (fun w5 h => ?_) fun v w5 h => ⟨h.1, by simpa using h.2.1, by rw [h.2.2]; exact H.ext⟩
  obtain ⟨h1, rfl⟩ := h
  repeat (first | refine Lt.of ?_ | refine Nn.of ?_ | refine H.ld 0 rfl rfl ?_ | refine H.ld 1 rfl rfl ?_ | refine H.ld 2 rfl rfl ?_ | refine H.ld 3 rfl rfl ?_ | refine H.ld 4 rfl rfl ?_ | refine H.ld 5 rfl rfl ?_ | (refine H.st 0 rfl (by simp) fun _ H => ?_; simp only [List.nil_append, List.cons_append, List.set_cons_zero, List.set_cons_succ, Nat.zero_add] at H) | (refine H.st 1 rfl (by simp) fun _ H => ?_; simp only [List.nil_append, List.cons_append, List.set_cons_zero, List.set_cons_succ, Nat.zero_add] at H) | (refine H.st 2 rfl (by simp) fun _ H => ?_; simp only [List.nil_append, List.cons_append, List.set_cons_zero, List.set_cons_succ, Nat.zero_add] at H) | (refine H.st 3 rfl (by simp) fun _ H => ?_; simp only [List.nil_append, List.cons_append, List.set_cons_zero, List.set_cons_succ, Nat.zero_add] at H) | (refine H.st 4 rfl (by simp) fun _ H => ?_; simp only [List.nil_append, List.cons_append, List.set_cons_zero, List.set_cons_succ, Nat.zero_add] at H) | (refine H.st 5 rfl (by simp) fun _ H => ?_; simp only [List.nil_append, List.cons_append, List.set_cons_zero, List.set_cons_succ, Nat.zero_add] at H))
  exact ⟨rfl, by simpa using h1, H.ext⟩
theorem c_mustM (x : Mx) (e : Int) (w : World) : C32 x e w (fun r w1 => r = x ∧ e = 0 ∧ Ext (fun _ => False) w w1) fun v w1 => v = gup e ∧ e ≠ 0 ∧ Ext (fun _ => False) w w1 := by
  refine T32 _ _ _ _ _ ?_
  unfold S32
  refine (Hn.start w).nw fun w3 H => H.nw fun w4 H => ?_
  refine (c_need _ e _).mono (fun w5 h => ?_) fun v w5 h => ⟨h.1, by simpa using h.2.1, by rw [h.2.2]; exact H.ext⟩
  obtain ⟨h1, rfl⟩ := h
  repeat (first | refine Lt.of ?_ | refine Nn.of ?_ | refine H.ld 0 rfl rfl ?_ | refine H.ld 1 rfl rfl ?_ | refine H.ld 2 rfl rfl ?_ | refine H.ld 3 rfl rfl ?_ | refine H.ld 4 rfl rfl ?_ | refine H.ld 5 rfl rfl ?_ | (refine H.st 0 rfl (by simp) fun _ H => ?_; simp only [List.nil_append, List.cons_append, List.set_cons_zero, List.set_cons_succ, Nat.zero_add] at H) | (refine H.st 1 rfl (by simp) fun _ H => ?_; simp only [List.nil_append, List.cons_append, List.set_cons_zero, List.set_cons_succ, Nat.zero_add] at H) | (refine H.st 2 rfl (by simp) fun _ H => ?_; simp only [List.nil_append, List.cons_append, List.set_cons_zero, List.set_cons_succ, Nat.zero_add] at H) | (refine H.st 3 rfl (by simp) fun _ H => ?_; simp only [List.nil_append, List.cons_append, List.set_cons_zero, List.set_cons_succ, Nat.zero_add] at H) | (refine H.st 4 rfl (by simp) fun _ H => ?_; simp only [List.nil_append, List.cons_append, List.set_cons_zero, List.set_cons_succ, Nat.zero_add] at H) | (refine H.st 5 rfl (by simp) fun _ H => ?_; simp only [List.nil_append, List.cons_append, List.set_cons_zero, List.set_cons_succ, Nat.zero_add] at H))
  exact ⟨rfl, by simpa using h1, H.ext⟩
/-- The cells of a state, of a hand, in their blocks. -/
theorem gr_blk (w : World) (g : GT) : Hn w (w.alloc (.cells (Sig.cells LiA29 g).toArray 30)) [(w.heap.size, [.int .i64 (g.1), .int .i64 (g.2.1), .int .i64 (g.2.2.1), .int .i64 (g.2.2.2.1), .int .i64 (g.2.2.2.2.1), .int .i64 (g.2.2.2.2.2.1), .int .i64 (g.2.2.2.2.2.2.1), .int .i64 (g.2.2.2.2.2.2.2.1), .int .i64 (g.2.2.2.2.2.2.2.2.1), .int .i64 (g.2.2.2.2.2.2.2.2.2.1), Slc.v (g.2.2.2.2.2.2.2.2.2.2.1), .int .i64 (g.2.2.2.2.2.2.2.2.2.2.2.1), .int .i64 (g.2.2.2.2.2.2.2.2.2.2.2.2.1), .int .i64 (g.2.2.2.2.2.2.2.2.2.2.2.2.2.1), .int .i64 (g.2.2.2.2.2.2.2.2.2.2.2.2.2.2.1), .int .i64 (g.2.2.2.2.2.2.2.2.2.2.2.2.2.2.2.1), .int .i64 (g.2.2.2.2.2.2.2.2.2.2.2.2.2.2.2.2.1), .int .i64 (g.2.2.2.2.2.2.2.2.2.2.2.2.2.2.2.2.2.1), .int .i64 (g.2.2.2.2.2.2.2.2.2.2.2.2.2.2.2.2.2.2.1), .int .i64 (g.2.2.2.2.2.2.2.2.2.2.2.2.2.2.2.2.2.2.2.1), .int .i64 (g.2.2.2.2.2.2.2.2.2.2.2.2.2.2.2.2.2.2.2.2.1), .int .i64 (g.2.2.2.2.2.2.2.2.2.2.2.2.2.2.2.2.2.2.2.2.2.1), .int .i64 (g.2.2.2.2.2.2.2.2.2.2.2.2.2.2.2.2.2.2.2.2.2.2.1), .int .i64 (g.2.2.2.2.2.2.2.2.2.2.2.2.2.2.2.2.2.2.2.2.2.2.2.1), .int .i64 (g.2.2.2.2.2.2.2.2.2.2.2.2.2.2.2.2.2.2.2.2.2.2.2.2.1), .int .i64 (g.2.2.2.2.2.2.2.2.2.2.2.2.2.2.2.2.2.2.2.2.2.2.2.2.2.1), .int .i64 (g.2.2.2.2.2.2.2.2.2.2.2.2.2.2.2.2.2.2.2.2.2.2.2.2.2.2.1), .int .i64 (g.2.2.2.2.2.2.2.2.2.2.2.2.2.2.2.2.2.2.2.2.2.2.2.2.2.2.2.1), .string (g.2.2.2.2.2.2.2.2.2.2.2.2.2.2.2.2.2.2.2.2.2.2.2.2.2.2.2.2.1), .int .i64 (g.2.2.2.2.2.2.2.2.2.2.2.2.2.2.2.2.2.2.2.2.2.2.2.2.2.2.2.2.2)], 30)] := by
  have h := Hn.push (Hn.start w |>.keep ((Ext.refl (fun _ => False) w).alloc (.cells (Sig.cells LiA29 g).toArray 30))) (Blk.new w (Sig.cells LiA29 g).toArray 30) (Nat.le_refl _) (by simp)
  exact h
theorem ha_blk (w : World) (g : GT) (x : FT) : Hn w (w.alloc (.cells (Sig.cells LiA60 (hand g x)).toArray 61)) [(w.heap.size, [.int .i64 (g.1), .int .i64 (g.2.1), .int .i64 (g.2.2.1), .int .i64 (g.2.2.2.1), .int .i64 (g.2.2.2.2.1), .int .i64 (g.2.2.2.2.2.1), .int .i64 (g.2.2.2.2.2.2.1), .int .i64 (g.2.2.2.2.2.2.2.1), .int .i64 (g.2.2.2.2.2.2.2.2.1), .int .i64 (g.2.2.2.2.2.2.2.2.2.1), Slc.v (g.2.2.2.2.2.2.2.2.2.2.1), .int .i64 (g.2.2.2.2.2.2.2.2.2.2.2.1), .int .i64 (g.2.2.2.2.2.2.2.2.2.2.2.2.1), .int .i64 (g.2.2.2.2.2.2.2.2.2.2.2.2.2.1), .int .i64 (g.2.2.2.2.2.2.2.2.2.2.2.2.2.2.1), .int .i64 (g.2.2.2.2.2.2.2.2.2.2.2.2.2.2.2.1), .int .i64 (g.2.2.2.2.2.2.2.2.2.2.2.2.2.2.2.2.1), .int .i64 (g.2.2.2.2.2.2.2.2.2.2.2.2.2.2.2.2.2.1), .int .i64 (g.2.2.2.2.2.2.2.2.2.2.2.2.2.2.2.2.2.2.1), .int .i64 (g.2.2.2.2.2.2.2.2.2.2.2.2.2.2.2.2.2.2.2.1), .int .i64 (g.2.2.2.2.2.2.2.2.2.2.2.2.2.2.2.2.2.2.2.2.1), .int .i64 (g.2.2.2.2.2.2.2.2.2.2.2.2.2.2.2.2.2.2.2.2.2.1), .int .i64 (g.2.2.2.2.2.2.2.2.2.2.2.2.2.2.2.2.2.2.2.2.2.2.1), .int .i64 (g.2.2.2.2.2.2.2.2.2.2.2.2.2.2.2.2.2.2.2.2.2.2.2.1), .int .i64 (g.2.2.2.2.2.2.2.2.2.2.2.2.2.2.2.2.2.2.2.2.2.2.2.2.1), .int .i64 (g.2.2.2.2.2.2.2.2.2.2.2.2.2.2.2.2.2.2.2.2.2.2.2.2.2.1), .int .i64 (g.2.2.2.2.2.2.2.2.2.2.2.2.2.2.2.2.2.2.2.2.2.2.2.2.2.2.1), .int .i64 (g.2.2.2.2.2.2.2.2.2.2.2.2.2.2.2.2.2.2.2.2.2.2.2.2.2.2.2.1), .string (g.2.2.2.2.2.2.2.2.2.2.2.2.2.2.2.2.2.2.2.2.2.2.2.2.2.2.2.2.1), .int .i64 (g.2.2.2.2.2.2.2.2.2.2.2.2.2.2.2.2.2.2.2.2.2.2.2.2.2.2.2.2.2), .string (x.1), .bool (x.2.1), .int .i64 (x.2.2.1), Slc.v (x.2.2.2.1), .int .i64 (x.2.2.2.2.1), Slc.v (x.2.2.2.2.2.1), Slc.v (x.2.2.2.2.2.2)], 61)] := by
  have h := Hn.push (Hn.start w |>.keep ((Ext.refl (fun _ => False) w).alloc (.cells (Sig.cells LiA60 (hand g x)).toArray 61))) (Blk.new w (Sig.cells LiA60 (hand g x)).toArray 61) (Nat.le_refl _) (by simp)
  exact h
theorem c_mustF (x : FT) (e : Int) (w : World) : C25 x e w (fun r w1 => r = x ∧ e = 0 ∧ Ext (fun _ => False) w w1) fun v w1 => v = gup e ∧ e ≠ 0 ∧ Ext (fun _ => False) w w1 := by
  refine T25 _ _ _ _ _ ?_
  unfold S25
  refine Nw.of ?_
  have H := fo_blk w x
  generalize w.alloc (.cells (Sig.cells LiA33 x).toArray 34) = wd at *
  refine H.nw fun w4 H => ?_
  refine (c_need _ e _).mono (fun w5 h => ?_) fun v w5 h => ⟨h.1, by simpa using h.2.1, by rw [h.2.2]; exact H.ext⟩
  obtain ⟨h1, rfl⟩ := h
  refine H.ldT (i := 0) (pre := []) (post := []) (ts := LiA33) (x := x) rfl rfl ?_
  refine H.stT (i := 1) (pre := []) (post := []) (zs := [.string ⟨#[]⟩, .bool false, .int .i64 0, Slc.v ⟨none, 0, 0⟩, .int .i64 0, Slc.v ⟨none, 0, 0⟩, Slc.v ⟨none, 0, 0⟩]) rfl rfl rfl fun w7 H => ?_
  exact H.ldT (i := 1) (pre := []) (post := []) (ts := LiA33) (x := x) rfl rfl ⟨rfl, by simpa using h1, H.ext⟩
theorem c_mustG (x : GT) (e : Int) (w : World) : C38 x e w (fun r w1 => r = x ∧ e = 0 ∧ Ext (fun _ => False) w w1) fun v w1 => v = gup e ∧ e ≠ 0 ∧ Ext (fun _ => False) w w1 := by
  refine T38 _ _ _ _ _ ?_
  unfold S38
  refine Nw.of ?_
  have H := gr_blk w x
  generalize w.alloc (.cells (Sig.cells LiA29 x).toArray 30) = wd at *
  refine H.nw fun w4 H => ?_
  refine (c_need _ e _).mono (fun w5 h => ?_) fun v w5 h => ⟨h.1, by simpa using h.2.1, by rw [h.2.2]; exact H.ext⟩
  obtain ⟨h1, rfl⟩ := h
  refine H.ldT (i := 0) (pre := []) (post := []) (ts := LiA29) (x := x) rfl rfl ?_
  refine H.stT (i := 1) (pre := []) (post := []) (zs := [.int .i64 0, .int .i64 0, .int .i64 0, .int .i64 0, .int .i64 0, .int .i64 0, .int .i64 0, .int .i64 0, .int .i64 0, .int .i64 0, Slc.v ⟨none, 0, 0⟩, .int .i64 0, .int .i64 0, .int .i64 0, .int .i64 0, .int .i64 0, .int .i64 0, .int .i64 0, .int .i64 0, .int .i64 0, .int .i64 0, .int .i64 0, .int .i64 0, .int .i64 0, .int .i64 0, .int .i64 0, .int .i64 0, .int .i64 0, .string ⟨#[]⟩, .int .i64 0]) rfl rfl rfl fun w7 H => ?_
  exact H.ldT (i := 1) (pre := []) (post := []) (ts := LiA29) (x := x) rfl rfl ⟨rfl, by simpa using h1, H.ext⟩
theorem c_fits (n : Int) (w : World) : C39 n w (fun r w1 => r = n ∧ inW n = true ∧ w1 = w) fun v w1 => v = gup 2 ∧ inW n = false ∧ w1 = w := by
  refine T39 _ _ _ _ ?_
  unfold S39
  refine Br.dec (fun h => ?_) fun h => ?_
  · refine (c_need _ 2 w).mono (fun w1 h2 => ?_) fun v w1 h2 => ?_
    · have := h2.1
      rw [decide_eq_true_eq] at this
      exact ⟨rfl, inW_spec.2 (by omega), h2.2⟩
    · have := h2.2.1
      rw [decide_eq_false_iff_not] at this
      exact ⟨h2.1, inW_no.2 (by omega), h2.2.2⟩
  · exact (c_need _ 2 w).mono (fun w1 h2 => by cases h2.1) fun v w1 h2 => ⟨h2.1, inW_no.2 (by omega), h2.2.2⟩
theorem c_use (g : GT) (w : World) : C24 g w (fun w1 => useG g = true ∧ Ext (fun _ => False) w w1) fun v w1 => v = gup 2 ∧ useG g = false ∧ Ext (fun _ => False) w w1 := by
  refine T24 _ _ _ _ ?_
  unfold S24
  refine Nw.of ?_
  have H := gr_blk w g
  have hE := H.ext
  generalize w.alloc (.cells (Sig.cells LiA29 g).toArray 30) = wd at *
  have cl : ∀ {j : Nat} {v : Value}, ([.int .i64 (g.1), .int .i64 (g.2.1), .int .i64 (g.2.2.1), .int .i64 (g.2.2.2.1), .int .i64 (g.2.2.2.2.1), .int .i64 (g.2.2.2.2.2.1), .int .i64 (g.2.2.2.2.2.2.1), .int .i64 (g.2.2.2.2.2.2.2.1), .int .i64 (g.2.2.2.2.2.2.2.2.1), .int .i64 (g.2.2.2.2.2.2.2.2.2.1), Slc.v (g.2.2.2.2.2.2.2.2.2.2.1), .int .i64 (g.2.2.2.2.2.2.2.2.2.2.2.1), .int .i64 (g.2.2.2.2.2.2.2.2.2.2.2.2.1), .int .i64 (g.2.2.2.2.2.2.2.2.2.2.2.2.2.1), .int .i64 (g.2.2.2.2.2.2.2.2.2.2.2.2.2.2.1), .int .i64 (g.2.2.2.2.2.2.2.2.2.2.2.2.2.2.2.1), .int .i64 (g.2.2.2.2.2.2.2.2.2.2.2.2.2.2.2.2.1), .int .i64 (g.2.2.2.2.2.2.2.2.2.2.2.2.2.2.2.2.2.1), .int .i64 (g.2.2.2.2.2.2.2.2.2.2.2.2.2.2.2.2.2.2.1), .int .i64 (g.2.2.2.2.2.2.2.2.2.2.2.2.2.2.2.2.2.2.2.1), .int .i64 (g.2.2.2.2.2.2.2.2.2.2.2.2.2.2.2.2.2.2.2.2.1), .int .i64 (g.2.2.2.2.2.2.2.2.2.2.2.2.2.2.2.2.2.2.2.2.2.1), .int .i64 (g.2.2.2.2.2.2.2.2.2.2.2.2.2.2.2.2.2.2.2.2.2.2.1), .int .i64 (g.2.2.2.2.2.2.2.2.2.2.2.2.2.2.2.2.2.2.2.2.2.2.2.1), .int .i64 (g.2.2.2.2.2.2.2.2.2.2.2.2.2.2.2.2.2.2.2.2.2.2.2.2.1), .int .i64 (g.2.2.2.2.2.2.2.2.2.2.2.2.2.2.2.2.2.2.2.2.2.2.2.2.2.1), .int .i64 (g.2.2.2.2.2.2.2.2.2.2.2.2.2.2.2.2.2.2.2.2.2.2.2.2.2.2.1), .int .i64 (g.2.2.2.2.2.2.2.2.2.2.2.2.2.2.2.2.2.2.2.2.2.2.2.2.2.2.2.1), .string (g.2.2.2.2.2.2.2.2.2.2.2.2.2.2.2.2.2.2.2.2.2.2.2.2.2.2.2.2.1), .int .i64 (g.2.2.2.2.2.2.2.2.2.2.2.2.2.2.2.2.2.2.2.2.2.2.2.2.2.2.2.2.2)] : List Value)[j]? = some v → wd.drew.cell? ⟨w.heap.size, j, none⟩ = some v := fun {j v} hj => by
    rw [(H.drew.get 0 rfl).cell, List.getElem?_toArray]
    exact hj
  have h2 : Ext (fun _ => False) wd.drew wd.drew := Ext.refl _ _
  refine ⟨Ext (fun _ => False) wd.drew, h2, ?_⟩
  refine LdST.blk (ts := LiA29) (pre := []) (post := []) (t := 30) (x := g) (fun w' hw => hw.blk (H.drew.get 0 rfl) id) rfl ?_
  refine ldS_ext (cl rfl) (ldS_ext (cl rfl) (ldS_ext (cl rfl) (ldS_ext (cl rfl) (ldS_ext (cl rfl) (ldS_ext (cl rfl) ?_)))))
  refine (Mat.c_check (ctm g) _).mono ?_
  rintro r w12 ⟨rfl, e12⟩
  refine ⟨e12, (c_mustG g _ _).mono (fun r w14 h => ?_) fun v w14 h => ?_⟩
  case refine_2 =>
    obtain ⟨rfl, h0, e14⟩ := h
    have hm : Mat.okM (ctm g) = false := by
      cases hm : Mat.okM (ctm g) with
      | false => rfl
      | true => rw [hm] at h0; exact absurd rfl h0
    refine ⟨by rw [hm]; rfl, by unfold useG; rw [hm]; rfl, (hE.drew.tr e12).tr e14⟩
  obtain ⟨rfl, h0, e14⟩ := h
  have hm : Mat.okM (ctm r) = true := by
    cases hm : Mat.okM (ctm r) with
    | true => rfl
    | false => rw [hm] at h0; cases h0
  have H := (H.drew.keep e12).keep e14
  refine H.ldT (i := 0) (pre := (Sig.cells LiA29 r).take 22) (post := []) (ts := LiA27) (x := tx r) rfl rfl ?_
  refine H.nw fun w16 H => ?_
  refine H.stT (i := 1) (pre := []) (post := []) (zs := [.int .i64 0, .int .i64 0, .int .i64 0, .int .i64 0, .int .i64 0, .int .i64 0, .string ⟨#[]⟩, .int .i64 0]) rfl rfl rfl fun w17 H => ?_
  refine H.ld 1 rfl (x := tchar r) rfl (H.ld 1 rfl (x := tword r) rfl (H.ld 1 rfl (x := tscale r) rfl (H.ld 1 rfl (x := tlead r) rfl (H.ld 1 rfl (x := tsize r) rfl (H.ld 1 rfl (x := trise r) rfl ?_)))))
  have e17 := H.ext
  refine ⟨fun n st w1 => ∃ k : Nat, st = (k : Int) ∧ k ≤ 6 ∧ n = 6 - k ∧ w1 = w17 ∧ ∀ i, i < k → inW ((texts r).getD i 0) = true, 6, ⟨0, rfl, by omega, rfl, rfl, fun i hi => by omega⟩, ?_⟩
  rintro n st w1 ⟨k, rfl, hk, rfl, rfl, hall⟩
  unfold S24L1
  refine Br.dec (fun q => ?_) fun q => ?_
  · refine ⟨by omega, by omega, (texts r).getD k 0, ?_, (c_fits _ _).mono (fun r2 w2 h => ?_) fun v w2 h => ?_⟩
    · have hk6 : k < 6 := by omega
      rw [Int.toNat_natCast, Nat.mul_one]
      clear hall q
      rcases k with _ | _ | _ | _ | _ | _ | k
      all_goals first | rfl | omega
    · obtain ⟨rfl, hw, rfl⟩ := h
      refine ⟨6 - (k + 1), by omega, k + 1, by rw [i64_id (by omega)]; rfl, by omega, rfl, rfl, fun i hi => ?_⟩
      by_cases hik : i = k
      · rw [hik]; exact hw
      · exact hall i (by omega)
    · obtain ⟨rfl, hw, rfl⟩ := h
      refine ⟨rfl, ?_, e17⟩
      unfold useG
      rw [hm, Bool.true_and]
      cases ha : (texts r).all inW with
      | false => rfl
      | true =>
        have := (all_iff _).1 ha k (by show k < 6; omega)
        rw [hw] at this
        cases this
  · refine ⟨?_, e17⟩
    unfold useG
    rw [hm, Bool.true_and]
    exact (all_iff _).2 fun i hi => hall i (by have : i < 6 := hi; omega)
theorem useG_in {g : GT} (h : useG g = true) : Mat.okM (ctm g) = true ∧ inW (tchar g) = true ∧ inW (tword g) = true ∧ inW (tscale g) = true ∧ inW (tsize g) = true ∧ inW (trise g) = true := by
  unfold useG texts at h
  simp only [Bool.and_eq_true, List.all_cons, List.all_nil] at h
  exact ⟨h.1, h.2.1, h.2.2.1, h.2.2.2.1, h.2.2.2.2.2.1, h.2.2.2.2.2.2.1⟩
section
variable {w : World} {g : GT} {x : FT} {f : Font}
theorem c_scaled (x : FT) {n : Int} (hn : inW n = true) (hs : inW (tscale g) = true) (w : World) : C42 (hand g x) n w (fun r w1 => scaledP g n = some r ∧ Ext (fun _ => False) w w1) fun v w1 => v = gup 2 ∧ scaledP g n = none ∧ Ext (fun _ => False) w w1 := by
  refine T42 _ _ _ _ _ ?_
  unfold S42
  refine Nw.of ?_
  have H := ha_blk w g x
  have hE := H.ext
  generalize w.alloc (.cells (Sig.cells LiA60 (hand g x)).toArray 61) = wd at *
  refine H.ld 0 rfl (x := tscale g) rfl ?_
  have hb := mul_bd (inW_spec.1 hn) (inW_spec.1 hs)
  rw [i64_id (n := n * tscale g) (by omega)]
  refine (c_Near (by omega) _).mono ?_
  rintro r e w2 ⟨rfl, rfl, e2⟩
  refine (c_mustI _ 0 _).mono (fun r w3 h => ?_) fun v w3 h => absurd rfl h.2.1
  obtain ⟨rfl, _, rfl⟩ := h
  refine (c_fits _ _).mono (fun r w3 h => ?_) fun v w3 h => ?_
  · obtain ⟨rfl, hw, rfl⟩ := h
    exact ⟨by unfold scaledP; rw [if_pos hw], hE.tr e2⟩
  · obtain ⟨rfl, hw, rfl⟩ := h
    exact ⟨rfl, by unfold scaledP; rw [if_neg (by rw [hw]; decide)], hE.tr e2⟩
theorem widthF_bd (h : mayF f = true) (code : Int) : 0 ≤ widthF f code ∧ widthF f code ≤ 100000 := by
  unfold mayF at h
  simp only [Bool.and_eq_true, Fo.bnd, decide_eq_true_eq, List.all_eq_true] at h
  unfold widthF
  split
  · exact h.1.1.1.2
  · rename_i q
    have hil : (code - f.first).toNat < f.widths.length := by omega
    have := h.1.1.2 _ (List.getElem_mem hil)
    rw [List.getD_eq_getElem?_getD, List.getElem?_eq_getElem hil]
    exact this
theorem mayF_first (h : mayF f = true) : 0 ≤ f.first := by
  unfold mayF at h
  simp only [Bool.and_eq_true, Fo.bnd, decide_eq_true_eq, List.all_eq_true] at h
  exact h.1.1.1.1.1.1.2
theorem chk_may (h : chkF f = 0) : mayF f = true := by
  unfold chkF at h
  cases hm : mayF f with
  | true => rfl
  | false => rw [hm] at h; cases h
theorem c_wide (h : FoV w x f) (hm : mayF f = true) {code : Int} (hc : I64 code) : C28 (hand g x) code w (fun r w1 => widthP g f code = some r ∧ Ext (fun _ => False) w w1) fun v w1 => v = gup 2 ∧ widthP g f code = none ∧ Ext (fun _ => False) w w1 := by
  refine T28 _ _ _ _ _ ?_
  unfold S28
  refine Nw.of ?_
  have H := ha_blk w g x
  have hE := H.ext
  generalize w.alloc (.cells (Sig.cells LiA60 (hand g x)).toArray 61) = wd at *
  have cl : ∀ {j : Nat} {v : Value}, ([.int .i64 (g.1), .int .i64 (g.2.1), .int .i64 (g.2.2.1), .int .i64 (g.2.2.2.1), .int .i64 (g.2.2.2.2.1), .int .i64 (g.2.2.2.2.2.1), .int .i64 (g.2.2.2.2.2.2.1), .int .i64 (g.2.2.2.2.2.2.2.1), .int .i64 (g.2.2.2.2.2.2.2.2.1), .int .i64 (g.2.2.2.2.2.2.2.2.2.1), Slc.v (g.2.2.2.2.2.2.2.2.2.2.1), .int .i64 (g.2.2.2.2.2.2.2.2.2.2.2.1), .int .i64 (g.2.2.2.2.2.2.2.2.2.2.2.2.1), .int .i64 (g.2.2.2.2.2.2.2.2.2.2.2.2.2.1), .int .i64 (g.2.2.2.2.2.2.2.2.2.2.2.2.2.2.1), .int .i64 (g.2.2.2.2.2.2.2.2.2.2.2.2.2.2.2.1), .int .i64 (g.2.2.2.2.2.2.2.2.2.2.2.2.2.2.2.2.1), .int .i64 (g.2.2.2.2.2.2.2.2.2.2.2.2.2.2.2.2.2.1), .int .i64 (g.2.2.2.2.2.2.2.2.2.2.2.2.2.2.2.2.2.2.1), .int .i64 (g.2.2.2.2.2.2.2.2.2.2.2.2.2.2.2.2.2.2.2.1), .int .i64 (g.2.2.2.2.2.2.2.2.2.2.2.2.2.2.2.2.2.2.2.2.1), .int .i64 (g.2.2.2.2.2.2.2.2.2.2.2.2.2.2.2.2.2.2.2.2.2.1), .int .i64 (g.2.2.2.2.2.2.2.2.2.2.2.2.2.2.2.2.2.2.2.2.2.2.1), .int .i64 (g.2.2.2.2.2.2.2.2.2.2.2.2.2.2.2.2.2.2.2.2.2.2.2.1), .int .i64 (g.2.2.2.2.2.2.2.2.2.2.2.2.2.2.2.2.2.2.2.2.2.2.2.2.1), .int .i64 (g.2.2.2.2.2.2.2.2.2.2.2.2.2.2.2.2.2.2.2.2.2.2.2.2.2.1), .int .i64 (g.2.2.2.2.2.2.2.2.2.2.2.2.2.2.2.2.2.2.2.2.2.2.2.2.2.2.1), .int .i64 (g.2.2.2.2.2.2.2.2.2.2.2.2.2.2.2.2.2.2.2.2.2.2.2.2.2.2.2.1), .string (g.2.2.2.2.2.2.2.2.2.2.2.2.2.2.2.2.2.2.2.2.2.2.2.2.2.2.2.2.1), .int .i64 (g.2.2.2.2.2.2.2.2.2.2.2.2.2.2.2.2.2.2.2.2.2.2.2.2.2.2.2.2.2), .string (x.1), .bool (x.2.1), .int .i64 (x.2.2.1), Slc.v (x.2.2.2.1), .int .i64 (x.2.2.2.2.1), Slc.v (x.2.2.2.2.2.1), Slc.v (x.2.2.2.2.2.2)] : List Value)[j]? = some v → wd.drew.cell? ⟨w.heap.size, j, none⟩ = some v := fun {j v} hj => by
    rw [(H.drew.get 0 rfl).cell, List.getElem?_toArray]
    exact hj
  refine ⟨Ext (fun _ => False) wd.drew, Ext.refl _ _, ldS_ext (x := tsize g) (cl rfl) ?_⟩
  refine LdST.blk (ts := LiA33) (pre := [.int .i64 (g.1), .int .i64 (g.2.1), .int .i64 (g.2.2.1), .int .i64 (g.2.2.2.1), .int .i64 (g.2.2.2.2.1), .int .i64 (g.2.2.2.2.2.1), .int .i64 (g.2.2.2.2.2.2.1), .int .i64 (g.2.2.2.2.2.2.2.1), .int .i64 (g.2.2.2.2.2.2.2.2.1), .int .i64 (g.2.2.2.2.2.2.2.2.2.1), Slc.v (g.2.2.2.2.2.2.2.2.2.2.1), .int .i64 (g.2.2.2.2.2.2.2.2.2.2.2.1), .int .i64 (g.2.2.2.2.2.2.2.2.2.2.2.2.1), .int .i64 (g.2.2.2.2.2.2.2.2.2.2.2.2.2.1), .int .i64 (g.2.2.2.2.2.2.2.2.2.2.2.2.2.2.1), .int .i64 (g.2.2.2.2.2.2.2.2.2.2.2.2.2.2.2.1), .int .i64 (g.2.2.2.2.2.2.2.2.2.2.2.2.2.2.2.2.1), .int .i64 (g.2.2.2.2.2.2.2.2.2.2.2.2.2.2.2.2.2.1), .int .i64 (g.2.2.2.2.2.2.2.2.2.2.2.2.2.2.2.2.2.2.1), .int .i64 (g.2.2.2.2.2.2.2.2.2.2.2.2.2.2.2.2.2.2.2.1), .int .i64 (g.2.2.2.2.2.2.2.2.2.2.2.2.2.2.2.2.2.2.2.2.1), .int .i64 (g.2.2.2.2.2.2.2.2.2.2.2.2.2.2.2.2.2.2.2.2.2.1), .int .i64 (g.2.2.2.2.2.2.2.2.2.2.2.2.2.2.2.2.2.2.2.2.2.2.1), .int .i64 (g.2.2.2.2.2.2.2.2.2.2.2.2.2.2.2.2.2.2.2.2.2.2.2.1), .int .i64 (g.2.2.2.2.2.2.2.2.2.2.2.2.2.2.2.2.2.2.2.2.2.2.2.2.1), .int .i64 (g.2.2.2.2.2.2.2.2.2.2.2.2.2.2.2.2.2.2.2.2.2.2.2.2.2.1), .int .i64 (g.2.2.2.2.2.2.2.2.2.2.2.2.2.2.2.2.2.2.2.2.2.2.2.2.2.2.1), .int .i64 (g.2.2.2.2.2.2.2.2.2.2.2.2.2.2.2.2.2.2.2.2.2.2.2.2.2.2.2.1), .string (g.2.2.2.2.2.2.2.2.2.2.2.2.2.2.2.2.2.2.2.2.2.2.2.2.2.2.2.2.1), .int .i64 (g.2.2.2.2.2.2.2.2.2.2.2.2.2.2.2.2.2.2.2.2.2.2.2.2.2.2.2.2.2)]) (post := []) (t := 61) (x := x) (fun w' hw => hw.blk (H.drew.get 0 rfl) id) rfl ?_
  refine (c_width (h.keep hE.drew) (mayF_first hm) hc).mono ?_
  rintro r w8 ⟨rfl, e8⟩
  have hb := widthF_bd hm code
  rw [i64_id (n := 10 * widthF f code) (by omega)]
  refine ⟨e8, (c_mul2 _ _ _).mono ?_⟩
  rintro r e w11 ⟨hr, e11⟩
  have E := (hE.drew.tr e8).tr e11
  unfold widthP
  cases hp : mulO (tsize g) (10 * widthF f code) with
  | some n =>
    rw [hp] at hr
    obtain ⟨rfl, rfl⟩ := Prod.mk.inj hr
    exact (c_mustI _ 0 _).mono (fun r w3 h => ⟨by rw [h.1], by rw [h.2.2]; exact E⟩) fun v w3 h => absurd rfl h.2.1
  | none =>
    rw [hp] at hr
    obtain ⟨rfl, rfl⟩ := Prod.mk.inj hr
    exact (c_mustI _ 2 _).mono (fun r w3 h => by cases h.2.1) fun v w3 h => ⟨h.1, rfl, by rw [h.2.2]; exact E⟩
theorem elJ : El Tryd.prog 24 2 1 8 (.int .i64 0) := ⟨by kernel_rfl, by kernel_rfl, by kernel_rfl, by kernel_rfl, rfl⟩
theorem irow_of {s : Slc} {l : List Int} (h : VRow w s 1 (l.flatMap icell)) : IRow w s l := by
  refine ⟨VRow.count icell_len (by decide) h, fun i hi => ?_⟩
  obtain ⟨a, ha, hc⟩ := VRow.elem icell_len h (List.getElem?_eq_getElem hi) (by decide)
  refine ⟨a, ha, ?_⟩
  have := hc 0 _ rfl
  rw [Nat.mul_one, Nat.add_zero] at this
  rw [List.getD_eq_getElem?_getD, List.getElem?_eq_getElem hi]
  exact this
theorem c_step (h : FoV w x f) (hs : inW (tscale g) = true) {code wd : Int} : C27 (hand g x) code wd w (fun r w1 => stepP g f code wd = some r ∧ Ext (fun _ => False) w w1) fun v w1 => v = gup 2 ∧ stepP g f code wd = none ∧ Ext (fun _ => False) w w1 := by
  refine T27 _ _ _ _ _ _ ?_
  unfold S27
  refine Nw.of ?_
  have H := ha_blk w g x
  generalize w.alloc (.cells (Sig.cells LiA60 (hand g x)).toArray 61) = wa at *
  have hlt := H.lt 0 rfl
  refine H.ld 0 rfl (x := tchar g) rfl (H.nw fun w6 H => ?_)
  have key : ∀ (s : Slc) (wb : World), Hn w wb [(w.heap.size, [.int .i64 (g.1), .int .i64 (g.2.1), .int .i64 (g.2.2.1), .int .i64 (g.2.2.2.1), .int .i64 (g.2.2.2.2.1), .int .i64 (g.2.2.2.2.2.1), .int .i64 (g.2.2.2.2.2.2.1), .int .i64 (g.2.2.2.2.2.2.2.1), .int .i64 (g.2.2.2.2.2.2.2.2.1), .int .i64 (g.2.2.2.2.2.2.2.2.2.1), Slc.v (g.2.2.2.2.2.2.2.2.2.2.1), .int .i64 (g.2.2.2.2.2.2.2.2.2.2.2.1), .int .i64 (g.2.2.2.2.2.2.2.2.2.2.2.2.1), .int .i64 (g.2.2.2.2.2.2.2.2.2.2.2.2.2.1), .int .i64 (g.2.2.2.2.2.2.2.2.2.2.2.2.2.2.1), .int .i64 (g.2.2.2.2.2.2.2.2.2.2.2.2.2.2.2.1), .int .i64 (g.2.2.2.2.2.2.2.2.2.2.2.2.2.2.2.2.1), .int .i64 (g.2.2.2.2.2.2.2.2.2.2.2.2.2.2.2.2.2.1), .int .i64 (g.2.2.2.2.2.2.2.2.2.2.2.2.2.2.2.2.2.2.1), .int .i64 (g.2.2.2.2.2.2.2.2.2.2.2.2.2.2.2.2.2.2.2.1), .int .i64 (g.2.2.2.2.2.2.2.2.2.2.2.2.2.2.2.2.2.2.2.2.1), .int .i64 (g.2.2.2.2.2.2.2.2.2.2.2.2.2.2.2.2.2.2.2.2.2.1), .int .i64 (g.2.2.2.2.2.2.2.2.2.2.2.2.2.2.2.2.2.2.2.2.2.2.1), .int .i64 (g.2.2.2.2.2.2.2.2.2.2.2.2.2.2.2.2.2.2.2.2.2.2.2.1), .int .i64 (g.2.2.2.2.2.2.2.2.2.2.2.2.2.2.2.2.2.2.2.2.2.2.2.2.1), .int .i64 (g.2.2.2.2.2.2.2.2.2.2.2.2.2.2.2.2.2.2.2.2.2.2.2.2.2.1), .int .i64 (g.2.2.2.2.2.2.2.2.2.2.2.2.2.2.2.2.2.2.2.2.2.2.2.2.2.2.1), .int .i64 (g.2.2.2.2.2.2.2.2.2.2.2.2.2.2.2.2.2.2.2.2.2.2.2.2.2.2.2.1), .string (g.2.2.2.2.2.2.2.2.2.2.2.2.2.2.2.2.2.2.2.2.2.2.2.2.2.2.2.2.1), .int .i64 (g.2.2.2.2.2.2.2.2.2.2.2.2.2.2.2.2.2.2.2.2.2.2.2.2.2.2.2.2.2), .string (x.1), .bool (x.2.1), .int .i64 (x.2.2.1), Slc.v (x.2.2.2.1), .int .i64 (x.2.2.2.2.1), Slc.v (x.2.2.2.2.2.1), Slc.v (x.2.2.2.2.2.2)], 61)] → IRow wb s (stepL g f code wd) → 
      ∃ vS35 : World → Prop, vS35 wb.drew ∧ LdST vS35 (⟨w.heap.size, 0, none⟩ : Addr) 0 LiA60 fun (x36 : HT) =>
        C44 s wb.drew fun r37 r38 vw39 =>
          vS35 vw39 ∧ C43 r37 r38 vw39 (fun r40 vw41 =>
            vS35 vw41 ∧ C42 x36 r40 vw41 (fun r42 vw43 => stepP g f code wd = some r42 ∧ Ext (fun _ => False) w vw43) (fun v w1 => v = gup 2 ∧ stepP g f code wd = none ∧ Ext (fun _ => False) w w1)) (fun v w1 => v = gup 2 ∧ stepP g f code wd = none ∧ Ext (fun _ => False) w w1) := fun s wb Hb hI => by
    have Hb := Hb.drew
    have EB := Hb.ext
    refine ⟨Ext (fun _ => False) wb.drew, Ext.refl _ _, ?_⟩
    refine LdST.blk (ts := LiA60) (pre := []) (post := []) (t := 61) (x := hand g x) (fun w' hw => hw.blk (Hb.get 0 rfl) id) rfl ?_
    refine (Pat.c_sum (hI.keep (Ext.refl _ _).drew) (by unfold stepL; split <;> simp)).mono ?_
    rintro r e w39 ⟨hr, e39⟩
    rw [sumF_res] at hr
    have E := EB.tr e39
    refine ⟨e39, ?_⟩
    unfold stepP
    cases hp : sumO (stepL g f code wd) with
    | none =>
      rw [hp] at hr
      obtain ⟨rfl, rfl⟩ := Prod.mk.inj hr
      exact (c_mustI _ 2 _).mono (fun r w3 h => by cases h.2.1) fun v w3 h => ⟨h.1, rfl, by rw [h.2.2]; exact E⟩
    | some n =>
      rw [hp] at hr
      obtain ⟨rfl, rfl⟩ := Prod.mk.inj hr
      refine (c_mustI _ 0 _).mono (fun r w3 h => ?_) fun v w3 h => absurd rfl h.2.1
      obtain ⟨rfl, _, rfl⟩ := h
      exact ⟨e39, (c_scaled x (sumO_in hp) hs _).mono (fun r w4 h => ⟨h.1, E.tr h.2⟩) fun v w4 h => ⟨h.1, h.2.1, E.tr h.2.2⟩⟩
  have hB := H.get 1 rfl
  have H0 : Hn w w6 [(w.heap.size, [.int .i64 (g.1), .int .i64 (g.2.1), .int .i64 (g.2.2.1), .int .i64 (g.2.2.2.1), .int .i64 (g.2.2.2.2.1), .int .i64 (g.2.2.2.2.2.1), .int .i64 (g.2.2.2.2.2.2.1), .int .i64 (g.2.2.2.2.2.2.2.1), .int .i64 (g.2.2.2.2.2.2.2.2.1), .int .i64 (g.2.2.2.2.2.2.2.2.2.1), Slc.v (g.2.2.2.2.2.2.2.2.2.2.1), .int .i64 (g.2.2.2.2.2.2.2.2.2.2.2.1), .int .i64 (g.2.2.2.2.2.2.2.2.2.2.2.2.1), .int .i64 (g.2.2.2.2.2.2.2.2.2.2.2.2.2.1), .int .i64 (g.2.2.2.2.2.2.2.2.2.2.2.2.2.2.1), .int .i64 (g.2.2.2.2.2.2.2.2.2.2.2.2.2.2.2.1), .int .i64 (g.2.2.2.2.2.2.2.2.2.2.2.2.2.2.2.2.1), .int .i64 (g.2.2.2.2.2.2.2.2.2.2.2.2.2.2.2.2.2.1), .int .i64 (g.2.2.2.2.2.2.2.2.2.2.2.2.2.2.2.2.2.2.1), .int .i64 (g.2.2.2.2.2.2.2.2.2.2.2.2.2.2.2.2.2.2.2.1), .int .i64 (g.2.2.2.2.2.2.2.2.2.2.2.2.2.2.2.2.2.2.2.2.1), .int .i64 (g.2.2.2.2.2.2.2.2.2.2.2.2.2.2.2.2.2.2.2.2.2.1), .int .i64 (g.2.2.2.2.2.2.2.2.2.2.2.2.2.2.2.2.2.2.2.2.2.2.1), .int .i64 (g.2.2.2.2.2.2.2.2.2.2.2.2.2.2.2.2.2.2.2.2.2.2.2.1), .int .i64 (g.2.2.2.2.2.2.2.2.2.2.2.2.2.2.2.2.2.2.2.2.2.2.2.2.1), .int .i64 (g.2.2.2.2.2.2.2.2.2.2.2.2.2.2.2.2.2.2.2.2.2.2.2.2.2.1), .int .i64 (g.2.2.2.2.2.2.2.2.2.2.2.2.2.2.2.2.2.2.2.2.2.2.2.2.2.2.1), .int .i64 (g.2.2.2.2.2.2.2.2.2.2.2.2.2.2.2.2.2.2.2.2.2.2.2.2.2.2.2.1), .string (g.2.2.2.2.2.2.2.2.2.2.2.2.2.2.2.2.2.2.2.2.2.2.2.2.2.2.2.2.1), .int .i64 (g.2.2.2.2.2.2.2.2.2.2.2.2.2.2.2.2.2.2.2.2.2.2.2.2.2.2.2.2.2), .string (x.1), .bool (x.2.1), .int .i64 (x.2.2.1), Slc.v (x.2.2.2.1), .int .i64 (x.2.2.2.2.1), Slc.v (x.2.2.2.2.2.1), Slc.v (x.2.2.2.2.2.2)], 61)] := Hn.left (M := [(wa.heap.size, [.int .i64 wd, .int .i64 (tchar g)], 2)]) H
  refine Br.eq (fun q => ?_) fun q => key _ _ H0 ?_
  case refine_2 =>
    unfold stepL
    rw [if_neg (by simp [q]), List.append_nil]
    exact row2 hB
  refine H.ld 0 rfl (x := x.2.1) rfl ?_
  rw [h.wide]
  cases hw : f.wide with
  | true =>
    refine Br.f rfl (key _ _ H0 ?_)
    unfold stepL
    rw [if_neg (by simp [hw]), List.append_nil]
    exact row2 hB
  | false =>
    refine Br.t rfl (H.ld 0 rfl (x := tword g) rfl (Nw.of ?_))
    have hrow : Row w6 ⟨some ⟨wa.heap.size, 0, none⟩, 2, 2⟩ 2 1 ([wd, tchar g].flatMap icell) := ⟨rfl, .inr ⟨_, _, rfl, hB, Nat.le_refl _, rfl, rfl⟩⟩
    have e1 := (Ext.refl (fun _ => False) w6).alloc (.cells (icell (tword g)).toArray 2)
    obtain ⟨s', w', hrun, hrow, hlen', hext, hown⟩ := elJ.app1 (ty := 24) (ys := icell (tword g)) (hrow.keep e1 fun _ _ e => e) (Blk.new w6 (icell (tword g)).toArray 2) rfl (icell_one _) (by show (2 + 1) * 8 ≤ 140737488355328; omega) (by show 2 + 1 ≤ 9223372036854775807; omega)
    refine ⟨s', w', hrun, key s' w' ((H0.keep e1).other hext fun j hj => ?_) ?_⟩
    · obtain ⟨a, ha, hb⟩ := hj
      cases ha
      have hb : wa.heap.size = j := hb
      exact ⟨by omega, by simp; omega⟩
    · unfold stepL
      rw [if_pos ⟨q, hw⟩]
      exact irow_of (Row.view (by rw [List.flatMap_append]; simpa using hrow))
end
end Sw
end Go.Proofs.YtcblpehnkogfdaaDoor

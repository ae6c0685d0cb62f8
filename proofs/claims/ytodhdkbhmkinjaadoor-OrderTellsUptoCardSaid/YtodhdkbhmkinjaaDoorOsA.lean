/- Reading order: the small functions. Conditions: none but that numbers fit their kinds. -/
import Derived.Test.YtodhdkbhmkinjaaDoorOrD
import Derived.Test.YtodhdkbhmkinjaaDoorShT
import Derived.Test.YtodhdkbhmkinjaaDoorShelf
import Derived.Test.YtodhdkbhmkinjaaDoorFnSs
namespace Go.Proofs.YtodhdkbhmkinjaaDoor
namespace Rdg
open Sh
set_option linter.unusedVariables false
set_option linter.unusedSimpArgs false
set_option maxRecDepth 4000
set_option maxHeartbeats 1000000
theorem Br.t {b : Bool} {A B : Prop} (h : b = true) (h1 : A) : Br b A B := by rw [h]; exact h1
theorem Br.f {b : Bool} {A B : Prop} (h : b = false) (h1 : B) : Br b A B := by rw [h]; exact h1
theorem eqL (a b : ByteArray) : (a.toList == b.toList) = decide (a.data.toList = b.data.toList) := by
  rw [ByteArray.toList_eq, ByteArray.toList_eq]
  by_cases h : a.data.toList = b.data.toList
  · rw [decide_eq_true h]
    simpa using h
  · rw [decide_eq_false h]
    simpa using h
def clampS (g : Sg) (i : Nat) : Sg := { g with fx := bd g.fx, fy := bd g.fy, tx := bd g.tx, ty := bd g.ty, hi := max (bd g.hi) 0, at' := i }
def scells (x : Sg) : List Value := gcells x ++ [.int .i64 (x.at' : Int)]
theorem scells_len (x : Sg) : (scells x).length = 10 := rfl
def gt (g : Sg) : TyA31 := (g.code, g.s, g.fx, g.fy, g.tx, g.ty, g.hi, g.font, g.mode)
def st (x : Sg) : TyA60 := (x.code, x.s, x.fx, x.fy, x.tx, x.ty, x.hi, x.font, x.mode, (x.at' : Int))
/-- The numbers of a sign are within the bounds. -/
structure Cl (x : Sg) : Prop where
  fx : -1073741824 ≤ x.fx ∧ x.fx ≤ 1073741824
  fy : -1073741824 ≤ x.fy ∧ x.fy ≤ 1073741824
  tx : -1073741824 ≤ x.tx ∧ x.tx ≤ 1073741824
  ty : -1073741824 ≤ x.ty ∧ x.ty ≤ 1073741824
  hi : 0 ≤ x.hi ∧ x.hi ≤ 1073741824
theorem bd_in (n : Int) : -1073741824 ≤ bd n ∧ bd n ≤ 1073741824 := by unfold bd; omega
theorem clamp_cl (g : Sg) (i : Nat) : Cl (clampS g i) := ⟨bd_in _, bd_in _, bd_in _, bd_in _, by have := bd_in g.hi; unfold clampS; dsimp only; omega⟩
section
variable {w0 w : World} {L : List (Nat × List Value × TypeId)} {b : Nat} {t : TypeId}
theorem ldG {g : Sg} {K : TyA31 → Prop} (h : Hn w0 w L) (i : Nat) (hi : L[i]? = some (b, gcells g, t)) (k : K (gt g)) : LdT w ⟨b, 0, none⟩ 0 LiA31 K := h.ldT (ts := LiA31) (x := gt g) (pre := []) (post := []) hi rfl k
theorem ldSg {x : Sg} {K : TyA60 → Prop} (h : Hn w0 w L) (i : Nat) (hi : L[i]? = some (b, scells x, t)) (k : K (st x)) : LdT w ⟨b, 0, none⟩ 0 LiA60 K := h.ldT (ts := LiA60) (x := st x) (pre := []) (post := []) hi rfl k
theorem stSg {x y : Sg} {K : World → Prop} (h : Hn w0 w L) (i : Nat) (hi : L[i]? = some (b, scells y, t)) (k : ∀ w2, Hn w0 w2 (L.set i (b, scells x, t)) → K w2) : StT ⟨b, 0, none⟩ 0 LiA60 (st x) w K := h.stT (ts := LiA60) (x := st x) (pre := []) (zs := scells y) (post := []) (by rw [List.append_nil, List.nil_append]; exact hi) rfl rfl fun w2 H => k w2 H
theorem stG {x y : Sg} {K : World → Prop} (h : Hn w0 w L) (i : Nat) (hi : L[i]? = some (b, gcells y, t)) (k : ∀ w2, Hn w0 w2 (L.set i (b, gcells x, t)) → K w2) : StT ⟨b, 0, none⟩ 0 LiA31 (gt x) w K := h.stT (ts := LiA31) (x := gt x) (pre := []) (zs := gcells y) (post := []) (by rw [List.append_nil, List.nil_append]; exact hi) rfl rfl fun w2 H => k w2 H
end
attribute [local irreducible] Ld St Nw Nn Lt LdS
theorem c_bound (n : Int) (w : World) : C51 n w fun r w1 => r = bd n ∧ w1 = w := by
  refine T51 _ _ _ ?_
  unfold S51
  refine Lt.of ⟨?_, rfl⟩
  unfold bd
  split <;> split <;> omega
theorem c_signed (g : Sg) (i : Nat) (w : World) : C31 (gt g) (i : Int) w fun r w1 => r = st (clampS g i) ∧ Ext (fun _ => False) w w1 := by
  refine T31 (gt g) _ _ _ ?_
  unfold S31
  refine (Hn.start w).nw fun w3 H => ?_
  refine H.nw fun w4 H => ?_
  have H : Hn w w4 [(w.heap.size, gcells g, 32), (w3.heap.size, scells ⟨0, ⟨#[]⟩, 0, 0, 0, 0, 0, ⟨#[]⟩, 0, 0⟩, 61)] := H
  have H := H.drew
  refine ⟨fun w' => Blk w' w.heap.size (gcells g).toArray 32, H.get 0 rfl, ?_⟩
  refine LdS.of (x := g.fx) (fun _ h => h) rfl (LdS.of (x := g.fy) (fun _ h => h) rfl ?_)
  refine (c_bound g.fx _).mono ?_
  rintro r8 w9 ⟨rfl, rfl⟩
  refine ⟨H.get 0 rfl, (c_bound g.fy _).mono ?_⟩
  rintro r8 w9 ⟨rfl, rfl⟩
  refine H.st 0 rfl (of_decide_eq_true rfl) fun w12 H => H.st 0 rfl (of_decide_eq_true rfl) fun w13 H => ?_
  have H : Hn w w13 [(w.heap.size, gcells { g with fx := bd g.fx, fy := bd g.fy }, 32), (w3.heap.size, scells ⟨0, ⟨#[]⟩, 0, 0, 0, 0, 0, ⟨#[]⟩, 0, 0⟩, 61)] := H
  have H := H.drew
  refine ⟨fun w' => Blk w' w.heap.size (gcells { g with fx := bd g.fx, fy := bd g.fy }).toArray 32, H.get 0 rfl, ?_⟩
  refine LdS.of (x := g.tx) (fun _ h => h) rfl (LdS.of (x := g.ty) (fun _ h => h) rfl ?_)
  refine (c_bound g.tx _).mono ?_
  rintro r8 w9 ⟨rfl, rfl⟩
  refine ⟨H.get 0 rfl, (c_bound g.ty _).mono ?_⟩
  rintro r8 w9 ⟨rfl, rfl⟩
  refine H.st 0 rfl (of_decide_eq_true rfl) fun w21 H => H.st 0 rfl (of_decide_eq_true rfl) fun w22 H => ?_
  have H : Hn w w22 [(w.heap.size, gcells { g with fx := bd g.fx, fy := bd g.fy, tx := bd g.tx, ty := bd g.ty }, 32), (w3.heap.size, scells ⟨0, ⟨#[]⟩, 0, 0, 0, 0, 0, ⟨#[]⟩, 0, 0⟩, 61)] := H
  refine H.ld 0 rfl (x := g.hi) rfl ?_
  refine (c_bound g.hi _).mono ?_
  rintro r8 w9 ⟨rfl, rfl⟩
  have hh : (if 0 > bd g.hi then 0 else bd g.hi) = max (bd g.hi) 0 := by split <;> omega
  rw [hh]
  refine H.st 0 rfl (of_decide_eq_true rfl) fun w26 H => ?_
  have H : Hn w w26 [(w.heap.size, gcells (clampS g i), 32), (w3.heap.size, scells ⟨0, ⟨#[]⟩, 0, 0, 0, 0, 0, ⟨#[]⟩, 0, 0⟩, 61)] := H
  refine ldG H 0 rfl ?_
  refine stSg (x := clampS g i) H 1 rfl fun w28 H => ?_
  simp only [List.set_cons_zero, List.set_cons_succ] at H
  refine ldSg H 1 rfl ?_
  exact ⟨rfl, H.ext⟩
theorem c_box {x : Sg} (h : Cl x) (w : World) : C32 (st x) w fun r w1 => r = x.box ∧ Ext (fun _ => False) w w1 := by
  refine T32 (st x) _ _ ?_
  unfold S32
  refine (Hn.start w).nw fun w3 H => ?_
  refine H.nw fun w4 H => ?_
  have H : Hn w w4 [(w.heap.size, scells x, 61), (w3.heap.size, [.int .i64 0, .int .i64 0, .int .i64 0, .int .i64 0], 27)] := H
  refine H.ld 0 rfl (x := x.fx) rfl (H.ld 0 rfl (x := x.tx) rfl (H.ld 0 rfl (x := x.fy) rfl (H.ld 0 rfl (x := x.ty) rfl (H.ld 0 rfl (x := x.fx) rfl (H.ld 0 rfl (x := x.tx) rfl (H.ld 0 rfl (x := x.fy) rfl (H.ld 0 rfl (x := x.ty) rfl (H.ld 0 rfl (x := x.hi) rfl ?_))))))))
  iterate 4 (refine H.st 1 rfl (by simp) fun _ H => ?_; simp only [List.nil_append, List.cons_append, List.set_cons_zero, List.set_cons_succ, Nat.zero_add] at H)
  iterate 4 refine H.ld 1 rfl rfl ?_
  refine ⟨?_, H.ext⟩
  obtain ⟨h1, h2, h3, h4, h5⟩ := h
  have e1 : (if x.tx < x.fx then x.tx else x.fx) = min x.fx x.tx := by split <;> omega
  have e2 : (if x.ty < x.fy then x.ty else x.fy) = min x.fy x.ty := by split <;> omega
  have e3 : (if x.tx > x.fx then x.tx else x.fx) = max x.fx x.tx := by split <;> omega
  have e4 : (if x.ty > x.fy then x.ty else x.fy) = max x.fy x.ty := by split <;> omega
  rw [e1, e2, e3, e4, i64_id (by omega)]
  rfl
theorem c_Box (g : Sg) (w : World) : C11 (gt g) w fun r w1 => r = (clampS g 0).box ∧ Ext (fun _ => False) w w1 := by
  refine T11 (gt g) _ _ ?_
  unfold S11
  refine (Hn.start w).nw fun w3 H => ?_
  refine H.nw fun w4 H => ?_
  have H : Hn w w4 [(w.heap.size, gcells g, 32), (w3.heap.size, [.int .i64 0, .int .i64 0, .int .i64 0, .int .i64 0], 27)] := H
  refine ldG H 0 rfl ?_
  refine (c_signed g 0 _).mono ?_
  rintro r5 w6 ⟨rfl, e6⟩
  have H := H.keep e6
  refine (c_box (clamp_cl g 0) _).mono ?_
  rintro r7 w8 ⟨rfl, e8⟩
  have H := H.keep e8
  iterate 4 (refine H.st 1 rfl (by simp) fun _ H => ?_; simp only [List.nil_append, List.cons_append, List.set_cons_zero, List.set_cons_succ, Nat.zero_add] at H)
  iterate 4 refine H.ld 1 rfl rfl ?_
  exact ⟨rfl, H.ext⟩
theorem c_around (a b : R4) (w : World) : C48 a b w fun r w1 => r = both a b ∧ Ext (fun _ => False) w w1 := by
  refine T48 a b _ _ ?_
  unfold S48
  refine (Hn.start w).nw fun w3 H => ?_
  refine H.nw fun w4 H => ?_
  refine H.nw fun w5 H => ?_
  simp only [List.nil_append, List.cons_append] at H
  refine H.ld 0 rfl (x := a.1) rfl (H.ld 1 rfl (x := b.1) rfl (H.ld 0 rfl (x := a.2.1) rfl (H.ld 1 rfl (x := b.2.1) rfl (H.ld 0 rfl (x := a.2.2.1) rfl (H.ld 1 rfl (x := b.2.2.1) rfl (H.ld 0 rfl (x := a.2.2.2) rfl (H.ld 1 rfl (x := b.2.2.2) rfl ?_)))))))
  iterate 4 (refine H.st 2 rfl (by simp) fun _ H => ?_; simp only [List.nil_append, List.cons_append, List.set_cons_zero, List.set_cons_succ, Nat.zero_add] at H)
  iterate 4 refine H.ld 2 rfl rfl ?_
  refine ⟨?_, H.ext⟩
  have e1 : ∀ p q : Int, (if q < p then q else p) = min p q := fun p q => by split <;> omega
  have e2 : ∀ p q : Int, (if q > p then q else p) = max p q := fun p q => by split <;> omega
  rw [e1, e1, e2, e2]
  rfl
end Rdg
end Go.Proofs.YtodhdkbhmkinjaaDoor

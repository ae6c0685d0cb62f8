/- A stable sort: orders, merges, blocks; plain laws, no program in sight. No condition. -/
import Derived.Test.YtodhdkbhmkinjaaDoorBitM
namespace Go.Proofs.YtodhdkbhmkinjaaDoor
namespace Srt
set_option linter.unusedVariables false
set_option linter.unusedSimpArgs false
/-- An element: where it lies, and its place among the equals. -/
abbrev E := Nat × Nat
def lt (W : Nat → Int) (a b : E) : Prop := W a.1 < W b.1 ∨ (W a.1 = W b.1 ∧ a.2 < b.2)
abbrev So (W : Nat → Int) (l : List E) : Prop := l.Pairwise (lt W)
section
variable {W : Nat → Int}
theorem lt_trans {a b c : E} (h : lt W a b) (k : lt W b c) : lt W a c := by
  unfold lt at *
  omega
theorem lt_of {a b : E} (h : W a.1 ≤ W b.1) (k : a.2 < b.2) : lt W a b := by
  unfold lt
  omega
theorem le_of_lt {a b : E} (h : lt W a b) : W a.1 ≤ W b.1 := by
  unfold lt at h
  omega
theorem so_app {l m : List E} : So W (l ++ m) ↔ So W l ∧ So W m ∧ ∀ a ∈ l, ∀ b ∈ m, lt W a b := List.pairwise_append
/-- Two sorted rows with the same elements are one. -/
theorem so_unique : ∀ {l m : List E}, So W l → So W m → l.Perm m → l = m := by
  intro l m hl hm hp
  refine hp.eq_of_pairwise (le := lt W) (fun a b _ _ h k => ?_) hl hm
  unfold lt at h k
  omega
/-- x goes between A and B. -/
theorem so_put {A B : List E} {x : E} (h : So W (A ++ B)) (h1 : ∀ y ∈ A, lt W y x) (h2 : ∀ y ∈ B, lt W x y) : So W (A ++ x :: B) := by
  obtain ⟨a, b, c⟩ := so_app.1 h
  refine so_app.2 ⟨a, List.pairwise_cons.2 ⟨h2, b⟩, fun y hy z hz => ?_⟩
  rcases List.mem_cons.1 hz with rfl | hz
  · exact h1 y hy
  · exact c y hy z hz
/-- The tags rise from one to the other. -/
def Tg (l m : List E) : Prop := ∀ a ∈ l, ∀ b ∈ m, a.2 < b.2
theorem Tg.perm {l l' m m' : List E} (h : Tg l m) (h1 : l'.Perm l) (h2 : m'.Perm m) : Tg l' m' := fun a ha b hb => h a (h1.mem_iff.1 ha) b (h2.mem_iff.1 hb)
theorem Tg.sub {l l' m m' : List E} (h : Tg l m) (h1 : ∀ a ∈ l', a ∈ l) (h2 : ∀ a ∈ m', a ∈ m) : Tg l' m' := fun a ha b hb => h a (h1 a ha) b (h2 b hb)
/-! ### Merging by symmetry -/
/-- The two rows, parted so that what is moved is in order. -/
theorem sym_cross {U1 U2 V1 V2 : List E} (hU : So W (U1 ++ U2)) (hV : So W (V1 ++ V2)) (hT : Tg (U1 ++ U2) (V1 ++ V2))
    (h1 : U1 = [] ∨ V2 = [] ∨ ∃ A a b B, U1 = A ++ [a] ∧ V2 = b :: B ∧ W a.1 ≤ W b.1) (h2 : V1 = [] ∨ U2 = [] ∨ ∃ A a b B, V1 = A ++ [a] ∧ U2 = b :: B ∧ W a.1 < W b.1) :
    ∀ x ∈ U1 ++ V1, ∀ y ∈ U2 ++ V2, lt W x y := by
  obtain ⟨u1, u2, u3⟩ := so_app.1 hU
  obtain ⟨v1, v2, v3⟩ := so_app.1 hV
  have last : ∀ {A : List E} {a x : E}, So W (A ++ [a]) → x ∈ A ++ [a] → x = a ∨ lt W x a := fun {A a x} h hx => by
    rcases List.mem_append.1 hx with hx | hx
    · exact .inr ((so_app.1 h).2.2 x hx a (by simp))
    · exact .inl (by simpa using hx)
  have first : ∀ {B : List E} {b y : E}, So W (b :: B) → y ∈ b :: B → y = b ∨ lt W b y := fun {B b y} h hy => by
    rcases List.mem_cons.1 hy with rfl | hy
    · exact .inl rfl
    · exact .inr ((List.pairwise_cons.1 h).1 y hy)
  intro x hx y hy
  rcases List.mem_append.1 hx with hx | hx
  · rcases List.mem_append.1 hy with hy | hy
    · exact u3 x hx y hy
    · rcases h1 with e | e | ⟨A, a, b, B, e1, e2, hw⟩
      · rw [e] at hx; cases hx
      · rw [e] at hy; cases hy
      · have ht := hT x (List.mem_append_left _ hx) y (List.mem_append_right _ hy)
        have hab : lt W a b := lt_of hw (hT a (by rw [e1]; simp) b (by rw [e2]; simp))
        have hb1 : W b.1 ≤ W y.1 := by
          rw [e2] at hy v2
          rcases first v2 hy with rfl | h
          · exact Int.le_refl _
          · exact le_of_lt h
        have ha1 : W x.1 ≤ W a.1 := by
          rw [e1] at hx u1
          rcases last u1 hx with rfl | h
          · exact Int.le_refl _
          · exact le_of_lt h
        exact lt_of (by omega) ht
  · rcases List.mem_append.1 hy with hy | hy
    · rcases h2 with e | e | ⟨A, a, b, B, e1, e2, hw⟩
      · rw [e] at hx; cases hx
      · rw [e] at hy; cases hy
      · have hb1 : W b.1 ≤ W y.1 := by
          rw [e2] at hy u2
          rcases first u2 hy with rfl | h
          · exact Int.le_refl _
          · exact le_of_lt h
        have ha1 : W x.1 ≤ W a.1 := by
          rw [e1] at hx v1
          rcases last v1 hx with rfl | h
          · exact Int.le_refl _
          · exact le_of_lt h
        exact .inl (by omega)
    · exact v3 x hx y hy
/-! ### Blocks -/
/-- The blocks have this size; the last may be smaller. -/
def Sz (bs : Nat) : List (List E) → Prop
  | [] => True
  | [B] => 1 ≤ B.length ∧ B.length ≤ bs
  | B :: C :: r => B.length = bs ∧ Sz bs (C :: r)
structure Bk (W : Nat → Int) (Bs : List (List E)) : Prop where
  so : ∀ B ∈ Bs, So W B
  tg : Bs.Pairwise Tg
theorem Sz.len {bs : Nat} (h0 : 1 ≤ bs) : ∀ {Bs : List (List E)}, Sz bs Bs → ∀ B ∈ Bs, 1 ≤ B.length ∧ B.length ≤ bs
  | [], _, B, hB => by cases hB
  | [X], h, B, hB => by
    rw [List.mem_singleton.1 hB]
    exact h
  | X :: Y :: r, h, B, hB => by
    rcases List.mem_cons.1 hB with rfl | hB
    · have := h.1; omega
    · exact Sz.len h0 h.2 B hB
/-- Full blocks ahead of some. -/
theorem Sz.app {bs : Nat} : ∀ {Ms Rs : List (List E)}, (∀ M ∈ Ms, M.length = bs) → Sz bs Rs → (1 ≤ bs) → Sz bs (Ms ++ Rs)
  | [], Rs, _, h, _ => h
  | [M], [], hm, _, h0 => ⟨by rw [hm M (by simp)]; exact h0, by rw [hm M (by simp)]; exact Nat.le_refl _⟩
  | [M], R :: r, hm, h, _ => ⟨hm M (by simp), h⟩
  | M :: M' :: Ms, Rs, hm, h, h0 => ⟨hm M (by simp), Sz.app (Ms := M' :: Ms) (fun X hX => hm X (List.mem_cons_of_mem _ hX)) h h0⟩
theorem flat_full {bs : Nat} : ∀ {Ms : List (List E)}, (∀ M ∈ Ms, M.length = bs) → Ms.flatten.length = Ms.length * bs
  | [], _ => by simp
  | M :: Ms, h => by
    rw [List.flatten_cons, List.length_append, h M (by simp), flat_full fun X hX => h X (List.mem_cons_of_mem _ hX), List.length_cons, Nat.add_mul]
    omega
/-- At most one block: it is sorted. -/
theorem Bk.done {bs : Nat} {Bs : List (List E)} (h : Bk W Bs) (hs : Sz bs Bs) (h0 : 1 ≤ bs) (hn : Bs.flatten.length ≤ bs) : So W Bs.flatten := by
  match Bs, h, hs, hn with
  | [], _, _, _ => exact List.Pairwise.nil
  | [B], h, _, _ =>
    have := h.so B (by simp)
    simpa using this
  | B :: C :: r, h, hs, hn =>
    have h1 := hs.1
    have h2 := (Sz.len h0 hs.2 C (by simp)).1
    simp only [List.flatten_cons, List.length_append] at hn
    omega
/-- Two neighbours become one. -/
theorem Bk.merge {Ms Rs : List (List E)} {U V M : List E} (h : Bk W (Ms ++ U :: V :: Rs)) (hM : So W M) (hp : M.Perm (U ++ V)) : Bk W (Ms ++ M :: Rs) := by
  have hmem : ∀ x ∈ M, x ∈ U ∨ x ∈ V := fun x hx => List.mem_append.1 (hp.mem_iff.1 hx)
  obtain ⟨t1, t2, t3⟩ := List.pairwise_append.1 h.tg
  obtain ⟨t4, t5⟩ := List.pairwise_cons.1 t2
  obtain ⟨t6, t7⟩ := List.pairwise_cons.1 t5
  refine ⟨fun B hB => ?_, List.pairwise_append.2 ⟨t1, List.pairwise_cons.2 ⟨fun R hR a ha b hb => ?_, t7⟩, fun A hA B hB a ha b hb => ?_⟩⟩
  · rcases List.mem_append.1 hB with hB | hB
    · exact h.so B (List.mem_append_left _ hB)
    · rcases List.mem_cons.1 hB with rfl | hB
      · exact hM
      · exact h.so B (List.mem_append_right _ (List.mem_cons_of_mem _ (List.mem_cons_of_mem _ hB)))
  · rcases hmem a ha with h1 | h1
    · exact t4 R (List.mem_cons_of_mem _ hR) a h1 b hb
    · exact t6 R hR a h1 b hb
  · rcases List.mem_cons.1 hB with rfl | hB
    · rcases hmem b hb with h1 | h1
      · exact t3 A hA U (by simp) a ha b h1
      · exact t3 A hA V (by simp) a ha b h1
    · exact t3 A hA B (by simp [hB]) a ha b hb
theorem merge_perm {Ms Rs : List (List E)} {U V M O : List E} (h : (Ms ++ U :: V :: Rs).flatten.Perm O) (hp : M.Perm (U ++ V)) : (Ms ++ M :: Rs).flatten.Perm O := by
  refine List.Perm.trans ?_ h
  simp only [List.flatten_append, List.flatten_cons]
  refine List.Perm.append_left _ ?_
  rw [← List.append_assoc]
  exact List.Perm.append_right _ hp
/-! ### Rotations and exchanges -/
theorem set_mid {α : Type} {pre post : List α} {c v : α} {i : Nat} (h : pre.length = i) : (pre ++ c :: post).set i v = pre ++ v :: post := by
  rw [List.set_append_right _ _ (by omega), show i - pre.length = 0 by omega]
  rfl
theorem get_mid {α : Type} {pre post : List α} {c : α} {i : Nat} (h : pre.length = i) : (pre ++ c :: post)[i]? = some c := by
  rw [List.getElem?_append_right (by omega), show i - pre.length = 0 by omega]
  rfl
/-- A row parted at a place. -/
theorem split_at {α : Type} {l : List α} {i : Nat} (h : i < l.length) : ∃ pre c post, l = pre ++ c :: post ∧ pre.length = i :=
  ⟨l.take i, l[i], l.drop (i + 1), by rw [← List.drop_eq_getElem_cons h, List.take_append_drop], by rw [List.length_take]; omega⟩
theorem cut_at {α : Type} {l : List α} {i : Nat} (h : i ≤ l.length) : ∃ A B, l = A ++ B ∧ A.length = i :=
  ⟨l.take i, l.drop i, (List.take_append_drop i l).symm, by rw [List.length_take]; omega⟩
end
end Srt
end Go.Proofs.YtodhdkbhmkinjaaDoor

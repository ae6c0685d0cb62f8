/- Rows of coins as trees: joined and sorted is merged. Conditions: sizes. -/
import Derived.Test.YtapgacggllbhiaaSoF
import Derived.Test.YtapgacggllbhiaaGr
import Derived.Test.YtapgacggllbhiaaPmB
namespace Go.Proofs.Ytapgacggllbhiaa
namespace Srt
open Sh Pm
set_option linter.unusedVariables false
set_option linter.unusedSimpArgs false
set_option maxRecDepth 4000
set_option maxHeartbeats 4000000
theorem elP : El Try.prog 59 60 1 8 (.pointer none) := ⟨by kernel_rfl, by kernel_rfl, by kernel_rfl, by kernel_rfl, rfl⟩
theorem Blk.ty {w : World} {b : Nat} {cs cs' : Array Value} {t t' : TypeId} (h : Blk w b cs t) (k : Blk w b cs' t') : t = t' := by
  unfold Blk at h k
  rw [h] at k
  cases k
  rfl
/-- A tree in memory. -/
def CT (w : World) (b : Nat) : Tr → Prop
  | .leaf s x => Blk w b #[.int .i64 x, .int .i64 (s : Int), .pointer none, .pointer none] 62
  | .node l r => ∃ b1 b2 : Nat, Blk w b #[.int .i64 (l.w + r.w), .int .i64 0, ptr b1, ptr b2] 62 ∧ CT w b1 l ∧ CT w b2 r
theorem CT.blk {w : World} : ∀ {b : Nat} {t : Tr}, CT w b t → ∃ cs, Blk w b cs 62 ∧ cs[0]? = some (.int .i64 t.w)
  | b, .leaf s x, h => ⟨_, h, rfl⟩
  | b, .node l r, ⟨b1, b2, h, _, _⟩ => ⟨_, h, rfl⟩
/-- Other types' blocks may turn. -/
theorem CT.keep {F : Nat → Prop} {w w' : World} (he : Ext F w w') (hF : ∀ j, F j → ∀ cs, ¬ Blk w j cs 62) : ∀ {b : Nat} {t : Tr}, CT w b t → CT w' b t
  | b, .leaf s x, h => he.blk h fun hf => hF _ hf _ h
  | b, .node l r, ⟨b1, b2, h, h1, h2⟩ => ⟨b1, b2, he.blk h fun hf => hF _ hf _ h, CT.keep he hF h1, CT.keep he hF h2⟩
theorem CT.still {w w' : World} (he : Ext (fun _ => False) w w') {b : Nat} {t : Tr} (h : CT w b t) : CT w' b t := CT.keep he (fun _ h => h.elim) h
theorem CT.wt {w : World} {b : Nat} {t : Tr} (h : CT w b t) : w.cell? ⟨b, 0, none⟩ = some (.int .i64 t.w) := by
  obtain ⟨cs, h1, h2⟩ := h.blk
  rw [h1.cell]
  exact h2
/-- A row of trees. -/
def pl (L : List (Nat × Tr)) : List Value := L.map fun p => ptr p.1
def RT (w : World) (s : Slc) (L : List (Nat × Tr)) : Prop := Row w s 60 1 (pl L) ∧ ∀ p ∈ L, CT w p.1 p.2
theorem pl_len (L : List (Nat × Tr)) : (pl L).length = L.length := by unfold pl; simp
theorem pl_app (L M : List (Nat × Tr)) : pl (L ++ M) = pl L ++ pl M := by unfold pl; simp
theorem pl_one (L : List (Nat × Tr)) : ∀ v ∈ pl L, v.oneCell' = true := by
  intro v hv
  obtain ⟨p, _, rfl⟩ := List.mem_map.1 hv
  rfl
section
variable {w w1 : World} {s s2 : Slc} {L M : List (Nat × Tr)}
theorem RT.len (h : RT w s L) : s.len = L.length := by
  have := h.1.1
  rw [pl_len] at this
  omega
theorem RT.nil (w : World) : RT w ⟨none, 0, 0⟩ [] := ⟨Row.nil _ _ _, fun p hp => by cases hp⟩
theorem RT.own_ty (h : RT w s L) {j : Nat} (hj : s.own j) : ∃ cs, Blk w j cs 60 := by
  obtain ⟨a, ha, rfl⟩ := hj
  rcases h.1.2 with rfl | ⟨g, cur, hp, hb, _⟩
  · cases ha
  · rw [hp] at ha
    cases ha
    exact ⟨_, hb⟩
theorem own_coin (h : RT w s L) : ∀ j, s.own j → ∀ cs, ¬ Blk w j cs 62 := fun j hj cs hb => by
  obtain ⟨cs', hb'⟩ := h.own_ty hj
  have := Blk.ty hb hb'
  revert this
  decide
theorem RT.keep (h : RT w s L) (he : Ext (fun _ => False) w w1) : RT w1 s L := ⟨h.1.keep he fun _ _ e => e, fun p hp => (h.2 p hp).still he⟩
theorem RT.get (h : RT w s L) {i : Nat} {p : Nat × Tr} (hi : L[i]? = some p) : ∃ g, s.p = some ⟨g, 0, none⟩ ∧ w.cell? ⟨g, i, none⟩ = some (ptr p.1) ∧ CT w p.1 p.2 := by
  obtain ⟨g, hg, hc⟩ := h.1.cell (j := i) (v := ptr p.1) (by unfold pl; rw [List.getElem?_map, hi]; rfl)
  exact ⟨g, hg, hc, h.2 p (List.mem_of_getElem? hi)⟩
theorem RT.snoc {ty : TypeId} {b gb : Nat} {t : Tr} (h : RT w s L) (hb : Blk w gb #[ptr b] 60) (ht : CT w b t) (hL : L.length ≤ 100000) :
    ∃ s' w', RunV Try.prog (Builtin.append_ #[59, 59] ty #[Slc.v s, Slc.v ⟨some ⟨gb, 0, none⟩, 1, 1⟩]) w (Slc.v s') w' ∧ RT w' s' (L ++ [(b, t)]) ∧ Ext s.own w w' ∧ ∀ j, s'.own j → s.own j ∨ w.heap.size ≤ j := by
  have hl := h.len
  obtain ⟨s', w', r1, r2, r3, r4, r5⟩ := elP.app1 (ty := ty) (ys := [ptr b]) h.1 hb rfl (by intro v hv; rw [List.mem_singleton.1 hv]; rfl) (by omega) (by omega)
  refine ⟨s', w', r1, ⟨by rw [pl_app]; exact r2, fun p hp => ?_⟩, r4, r5⟩
  rcases List.mem_append.1 hp with hp | hp
  · exact (h.2 p hp).keep r4 (own_coin h)
  · rw [List.mem_singleton.1 hp]
    exact CT.keep r4 (own_coin h) ht
theorem RT.app {ty : TypeId} (h : RT w s L) (k : RT w s2 M) (hL : L.length + M.length ≤ 100000) :
    ∃ s' w', RunV Try.prog (Builtin.append_ #[59, 59] ty #[Slc.v s, Slc.v s2]) w (Slc.v s') w' ∧ RT w' s' (L ++ M) ∧ Ext s.own w w' ∧ ∀ j, s'.own j → s.own j ∨ w.heap.size ≤ j := by
  have hl := h.len
  have hk := k.len
  obtain ⟨s', w', r1, r2, r3, r4, r5⟩ := elP.app (ty := ty) h.1 k.1.view (pl_one _) (by omega) (by omega)
  refine ⟨s', w', r1, ⟨by rw [pl_app]; exact r2, fun p hp => ?_⟩, r4, r5⟩
  rcases List.mem_append.1 hp with hp | hp
  · exact (h.2 p hp).keep r4 (own_coin h)
  · exact (k.2 p hp).keep r4 (own_coin h)
theorem RT.new_own (h : RT w1 s L) : ∀ j, s.own j → j < w1.heap.size := fun j hj => h.1.own_lt hj
attribute [local irreducible] Ld St Nw Nn Lt LdS
theorem c_grow (w : World) {n : Nat} (hn : n ≤ 200000) : C54 ⟨none, 0, 0⟩ (n : Int) w (fun r w1 => RT w1 r [] ∧ Ext (fun _ => False) w w1 ∧ ∀ j, r.own j → w.heap.size ≤ j) fun _ _ => False := by
  refine T54 _ _ _ _ _ ?_
  unfold S54
  refine Br.dec (fun q => by omega) fun q => Lt.of ?_
  have e : IntKind.i64.wrap ((n : Int) - IntKind.i64.wrap (((0 : Nat) : Int) - ((0 : Nat) : Int))) = (n : Int) := by
    rw [i64_id (n := ((0 : Nat) : Int) - ((0 : Nat) : Int)) (by omega), i64_id (by omega)]
    omega
  show Br (decide (IntKind.i64.wrap ((n : Int) - IntKind.i64.wrap (((0 : Nat) : Int) - ((0 : Nat) : Int))) > 0)) _ _
  rw [e]
  refine Br.dec (fun q1 => ⟨by omega, by omega, ?_⟩) fun q1 => ⟨RT.nil _, Ext.refl _ _, fun j hj => by obtain ⟨a, ha, _⟩ := hj; cases ha⟩
  obtain ⟨s', w', r1, r2, r3, r4⟩ := elP.grow (w := w) (ti := 3) (ty := 59) (by kernel_rfl) (n := n) (by omega) (by decide) (by omega) (by omega)
  refine ⟨s', w', r1, by simp only [Slc.cap]; omega, by show ((0 : Nat) : Int) ≤ _; omega, ⟨r2, fun p hp => by cases hp⟩, r3, fun j hj => ?_⟩
  obtain ⟨a, ha, rfl⟩ := hj
  refine r4 _ ?_
  have ha : (if s'.cap = 0 then s'.p else s'.p.map (·.add (0 * 1))) = some a := ha
  split at ha
  · exact ⟨a, ha, rfl⟩
  · obtain ⟨x, hx, rfl⟩ := Option.map_eq_some_iff.1 ha
    exact ⟨x, hx, (add_block x _).symm⟩
theorem c_concat (h : RT w s L) (k : RT w s2 M) (hL : L.length + M.length ≤ 100000) {g : Nat} (hg : Blk w g #[Slc.v s, Slc.v s2] 59) :
    C47 ⟨some ⟨g, 0, none⟩, 2, 2⟩ w (fun r w1 => RT w1 r (L ++ M) ∧ Ext (fun _ => False) w w1 ∧ ∀ j, r.own j → w.heap.size ≤ j) fun _ _ => False := by
  refine T47 _ _ _ _ ?_
  unfold S47
  have hl := h.len
  have hk := k.len
  have c0 : w.cell? ⟨g, 0, none⟩ = some (Slc.v s) := by rw [hg.cell]; rfl
  have c1 : w.cell? ⟨g, 1, none⟩ = some (Slc.v s2) := by rw [hg.cell]; rfl
  refine ⟨fun n st w1 => w1 = w ∧ ((n = 2 ∧ st = ((0 : Int), (0 : Int))) ∨ (n = 1 ∧ st = (((L.length : Nat) : Int), (1 : Int))) ∨ (n = 0 ∧ st = (((L.length + M.length : Nat) : Int), (2 : Int)))), 2, ⟨rfl, .inl ⟨rfl, rfl⟩⟩, ?_⟩
  rintro n st w1 ⟨rfl, hst⟩
  unfold S47L2
  rcases hst with ⟨rfl, rfl⟩ | ⟨rfl, rfl⟩ | ⟨rfl, rfl⟩
  · refine Srt.Br.t rfl ⟨by simp, by simp, Nn.of (Ld.mk c0 (Br.dec (fun q => ?_) fun q => ⟨1, by decide, rfl, .inr (.inl ⟨rfl, ?_⟩)⟩))⟩
    · dsimp only at q
      rw [i64_id (by omega)] at q
      omega
    · dsimp only
      rw [i64_id (by omega)]
      exact pair_eq (by omega) rfl
  · refine Srt.Br.t rfl ⟨by simp, by simp, Nn.of (Ld.mk c1 (Br.dec (fun q => ?_) fun q => ⟨0, by decide, rfl, .inr (.inr ⟨rfl, ?_⟩)⟩))⟩
    · dsimp only at q
      rw [i64_id (by omega)] at q
      omega
    · dsimp only
      rw [i64_id (by omega)]
      exact pair_eq (by omega) rfl
  · refine Srt.Br.f rfl ?_
    dsimp only
    refine (c_grow w1 (by omega)).mono ?_ (fun _ _ h => h)
    rintro r w2 ⟨hr, e2, o2⟩
    have h2 := h.keep e2
    have k2 := k.keep e2
    have c0 : w2.cell? ⟨g, 0, none⟩ = some (Slc.v s) := e2.cell_same c0
    have c1 : w2.cell? ⟨g, 1, none⟩ = some (Slc.v s2) := e2.cell_same c1
    have hg1 : g < w1.heap.size := hg.lt
    have other : ∀ {w3 w4 : World} {r : Slc} (hw : w1.heap.size ≤ w3.heap.size), (∀ j, r.own j → w1.heap.size ≤ j) → Ext r.own w3 w4 → Ext (fun _ => False) w1 w3 → Ext (fun _ => False) w1 w4 := fun {w3 w4 r} hw ho he he2 => he2.trans he (fun _ h => h) fun i hi hh => absurd hi (by have := ho i hh; omega)
    refine ⟨fun n st w3 => Ext (fun _ => False) w1 w3 ∧ (∀ j, st.1.own j → w1.heap.size ≤ j) ∧ ((n = 2 ∧ st.2 = (0 : Int) ∧ RT w3 st.1 []) ∨ (n = 1 ∧ st.2 = (1 : Int) ∧ RT w3 st.1 L) ∨ (n = 0 ∧ st.2 = (2 : Int) ∧ RT w3 st.1 (L ++ M))), 2, ⟨e2, o2, .inl ⟨rfl, rfl, hr⟩⟩, ?_⟩
    rintro n ⟨r, i⟩ w3 ⟨e3, o3, hst⟩
    unfold S47L1
    dsimp only at *
    have h3 := h.keep e3
    have k3 := k.keep e3
    have c0 : w3.cell? ⟨g, 0, none⟩ = some (Slc.v s) := e3.cell_same (by rw [hg.cell]; rfl)
    have c1 : w3.cell? ⟨g, 1, none⟩ = some (Slc.v s2) := e3.cell_same (by rw [hg.cell]; rfl)
    rcases hst with ⟨rfl, rfl, hr⟩ | ⟨rfl, rfl, hr⟩ | ⟨rfl, rfl, hr⟩
    · obtain ⟨s', w4, r1, r2, r3, r4⟩ := hr.app (ty := 59) h3 (by simp; omega)
      refine Srt.Br.t rfl ⟨by simp, by simp, Nn.of (Ld.mk c0 ⟨s', w4, r1, 1, by decide, other e3.size o3 r3 e3, fun j hj => ?_, .inr (.inl ⟨rfl, rfl, r2⟩)⟩)⟩
      have := e3.size
      rcases r4 j hj with hh | hh
      · exact o3 j hh
      · omega
    · obtain ⟨s', w4, r1, r2, r3, r4⟩ := hr.app (ty := 59) k3 (by omega)
      refine Srt.Br.t rfl ⟨by simp, by simp, Nn.of (Ld.mk c1 ⟨s', w4, r1, 0, by decide, other e3.size o3 r3 e3, fun j hj => ?_, .inr (.inr ⟨rfl, rfl, r2⟩)⟩)⟩
      have := e3.size
      rcases r4 j hj with hh | hh
      · exact o3 j hh
      · omega
    · exact Srt.Br.f rfl ⟨hr, e3, o3⟩
/-! ### Tags -/
def tag : Nat → List (Nat × Tr) → List E
  | _, [] => []
  | n, p :: r => (p.1, n) :: tag (n + 1) r
theorem tag_ptrs : ∀ (n : Nat) (L : List (Nat × Tr)), ptrs (tag n L) = pl L
  | _, [] => rfl
  | n, p :: r => by
    have := tag_ptrs (n + 1) r
    unfold ptrs pl at *
    simp [tag, this]
theorem tag_ge : ∀ (n : Nat) (L : List (Nat × Tr)), ∀ e ∈ tag n L, n ≤ e.2 ∧ e.2 < n + L.length ∧ ∃ p, L[e.2 - n]? = some p ∧ p.1 = e.1
  | _, [], e, h => by cases h
  | n, p :: r, e, h => by
    rcases List.mem_cons.1 h with rfl | h
    · exact ⟨Nat.le_refl _, by simp, p, by simp, rfl⟩
    · obtain ⟨h1, h2, q, h3, h4⟩ := tag_ge (n + 1) r e h
      refine ⟨by omega, by simp; omega, q, ?_, h4⟩
      rw [show e.2 - n = (e.2 - (n + 1)) + 1 by omega]
      simpa using h3
theorem tag_up : ∀ (n : Nat) (L : List (Nat × Tr)), (tag n L).Pairwise fun x y => x.2 < y.2
  | _, [] => List.Pairwise.nil
  | n, p :: r => List.pairwise_cons.2 ⟨fun e he => by have := (tag_ge _ _ e he).1; show n < e.2; omega, tag_up (n + 1) r⟩
theorem tag_app : ∀ (n : Nat) (L M : List (Nat × Tr)), tag n (L ++ M) = tag n L ++ tag (n + L.length) M
  | n, [], M => by simp [tag]
  | n, p :: r, M => by
    have := tag_app (n + 1) r M
    simp only [List.cons_append, tag, this, List.length_cons]
    rw [show n + 1 + r.length = n + (r.length + 1) by omega]
theorem tag_len : ∀ (n : Nat) (L : List (Nat × Tr)), (tag n L).length = L.length
  | _, [] => rfl
  | n, p :: r => by simp [tag, tag_len (n + 1) r]
/-- What a tag stands for. -/
def un (L : List (Nat × Tr)) (e : E) : Nat × Tr := L.getD e.2 default
theorem un_tag (K : List (Nat × Tr)) : ∀ (n : Nat) (L : List (Nat × Tr)), (∀ i p, L[i]? = some p → K[n + i]? = some p) → (tag n L).map (un K) = L
  | _, [], _ => rfl
  | n, p :: r, h => by
    have h0 := h 0 p rfl
    have ih := un_tag K (n + 1) r fun i q hq => by
      have := h (i + 1) q (by simpa using hq)
      rw [show n + 1 + i = n + (i + 1) by omega]
      exact this
    simp only [tag, List.map_cons, ih]
    congr 1
    unfold un
    rw [List.getD_eq_getElem?_getD]
    rw [Nat.add_zero] at h0
    simp only [h0, Option.getD_some]
def wOf (w : World) (b : Nat) : Int := match w.cell? ⟨b, 0, none⟩ with
  | some (.int .i64 x) => x
  | _ => 0
theorem wOf_ct {b : Nat} {t : Tr} (h : CT w b t) : wOf w b = t.w := by
  unfold wOf
  rw [h.wt]
def leE (W : Nat → Int) (a b : E) : Bool := decide (W a.1 ≤ W b.1)
theorem so_merge {W : Nat → Int} : ∀ (N : Nat) (A B : List E), A.length + B.length ≤ N → So W A → So W B → Tg A B → So W (List.merge A B (leE W))
  | _, [], B, _, _, hB, _ => by simpa [List.merge] using hB
  | _, a :: A, [], _, hA, _, _ => by simpa [List.merge] using hA
  | 0, a :: A, b :: B, h, _, _, _ => by simp at h
  | N + 1, a :: A, b :: B, h, hA, hB, hT => by
    simp only [List.length_cons] at h
    obtain ⟨a1, a2⟩ := List.pairwise_cons.1 hA
    obtain ⟨b1, b2⟩ := List.pairwise_cons.1 hB
    by_cases hab : W a.1 ≤ W b.1
    · rw [List.cons_merge_cons_pos _ _ _ (by simpa [leE] using hab)]
      have hlt : lt W a b := lt_of hab (hT a (by simp) b (by simp))
      refine List.pairwise_cons.2 ⟨fun y hy => ?_, so_merge N A (b :: B) (by simp only [List.length_cons]; omega) a2 hB (hT.sub (fun x hx => List.mem_cons_of_mem _ hx) fun x hx => hx)⟩
      rcases List.mem_merge.1 hy with hy | hy
      · exact a1 y hy
      · rcases List.mem_cons.1 hy with rfl | hy
        · exact hlt
        · exact lt_trans hlt (b1 y hy)
    · rw [List.cons_merge_cons_neg _ _ _ (by simpa [leE] using hab)]
      have hlt : lt W b a := .inl (by omega)
      refine List.pairwise_cons.2 ⟨fun y hy => ?_, so_merge N (a :: A) B (by simp only [List.length_cons]; omega) hA b2 (hT.sub (fun x hx => hx) fun x hx => List.mem_cons_of_mem _ hx)⟩
      rcases List.mem_merge.1 hy with hy | hy
      · rcases List.mem_cons.1 hy with rfl | hy
        · exact hlt
        · exact lt_trans hlt (a1 y hy)
      · exact b1 y hy
theorem so_tag {W : Nat → Int} : ∀ (n : Nat) (L : List (Nat × Tr)), (∀ p ∈ L, W p.1 = p.2.w) → Up (L.map (·.2)) → So W (tag n L)
  | _, [], _, _ => List.Pairwise.nil
  | n, p :: r, hW, hU => by
    obtain ⟨h1, h2⟩ := List.pairwise_cons.1 hU
    refine List.pairwise_cons.2 ⟨fun e he => ?_, so_tag (n + 1) r (fun q hq => hW q (by simp [hq])) h2⟩
    obtain ⟨g1, g2, q, g3, g4⟩ := tag_ge _ _ e he
    have hq : q ∈ r := List.mem_of_getElem? g3
    refine lt_of ?_ (by show n < e.2; omega)
    have := h1 q.2 (List.mem_map_of_mem hq)
    show W p.1 ≤ W e.1
    rw [← g4, hW q (by simp [hq]), hW p (by simp)]
    exact this
end
end Srt
end Go.Proofs.Ytapgacggllbhiaa

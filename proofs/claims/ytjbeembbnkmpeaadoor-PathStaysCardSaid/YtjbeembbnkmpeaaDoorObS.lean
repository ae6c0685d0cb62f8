/- Objects as trees; their size is counted; an object as an argument: what its reading tells (XObR and XObA, the parts that need no matrix law). No condition. -/
import Derived.Test.YtjbeembbnkmpeaaDoorOb
namespace Go.Proofs.YtjbeembbnkmpeaaDoor
namespace Mat
open Sh Fix
set_option linter.unusedVariables false
set_option linter.unusedSimpArgs false
set_option maxRecDepth 4000
set_option maxHeartbeats 2000000
section
attribute [local irreducible] Ld St Nw Nn Lt LdS
/-- The kids of an object, to depth d: keys and kids can be read. -/
def OT (w : World) : Nat → Ob → Prop
  | 0, _ => False
  | d + 1, o => (∃ K : List ByteArray, K.length ≤ maxLen ∧ o.2.2.2.2.1.len = K.length ∧ ∀ (i : Nat) (b : ByteArray), K[i]? = some b → ∃ a, o.2.2.2.2.1.p = some a ∧ w.cell? (a.add i) = some (.string b)) ∧
    ∃ L : List Ob, L.length ≤ maxLen ∧ OV w o.2.2.2.2.2 L ∧ ∀ o' ∈ L, OT w d o'
theorem OT.mono {w : World} : ∀ (d : Nat) (o : Ob), OT w d o → OT w (d + 1) o
  | 0, _, h => h.elim
  | d + 1, o, h => by
    obtain ⟨h1, L, h2, h3, h4⟩ := h
    exact ⟨h1, L, h2, h3, fun o' ho => OT.mono d o' (h4 o' ho)⟩
theorem c_size {w0 : World} : ∀ (d : Nat) (o : Ob) (w : World), OT w0 d o → Ext (fun _ => False) w0 w → C95 o w fun r w1 => Ext (fun _ => False) w w1
  | 0, _, _, h, _ => h.elim
  | d + 1, o, w, h, he0 => by
    obtain ⟨⟨K, hK, hKl, hKc⟩, L, hLl, hL, hT⟩ := h
    have hmax : maxLen ≤ 9223372036854775807 := by decide
    refine T95 o _ _ ?_
    unfold S95
    refine (Hn.start w).nw fun w2 H => ?_
    simp only [List.nil_append, List.cons_append, List.set_cons_zero, List.set_cons_succ, Nat.zero_add] at H
    iterate 2 refine H.ld 0 rfl rfl ?_
    refine ⟨fun n st w7 => ∃ i : Nat, st.2 = (i : Int) ∧ i ≤ K.length ∧ n = K.length - i ∧ w7 = w2, K.length, ⟨0, rfl, by omega, rfl, rfl⟩, ?_⟩
    rintro n ⟨z, st⟩ w7 ⟨i, hst, hi, rfl, rfl⟩
    simp only at hst
    subst hst
    unfold S95L2
    dsimp only
    rw [hKl]
    refine Br.dec (fun e => ⟨by omega, by omega, ?_⟩) fun e => ?_
    · have hlt : i < K.length := by omega
      obtain ⟨a, ha, hc⟩ := hKc i _ (List.getElem?_eq_getElem hlt)
      rw [ha, Int.toNat_natCast, Nat.mul_one]
      refine Nn.of (Ld.mk ((he0.tr H.ext).cell_same hc) ?_)
      exact ⟨K.length - (i + 1), by omega, i + 1, by rw [i64_id (by omega)]; rfl, by omega, rfl, rfl⟩
    · iterate 1 refine H.ld 0 rfl rfl ?_
      refine ⟨fun n st w8 => ∃ i : Nat, st.2 = (i : Int) ∧ i ≤ L.length ∧ n = L.length - i ∧ Ext (fun _ => False) w w8, L.length, ⟨0, rfl, by omega, rfl, H.ext⟩, ?_⟩
      rintro n ⟨z, st⟩ w8 ⟨i, hst, hi, rfl, he⟩
      simp only at hst
      subst hst
      unfold S95L1
      dsimp only
      rw [hL.1]
      refine Br.dec (fun e => ⟨by omega, by omega, ?_⟩) fun e => he
      have hlt : i < L.length := by omega
      have hLi : L[i]? = some L[i] := List.getElem?_eq_getElem hlt
      obtain ⟨p, hp, k0, k1, k2, k3, k4, k5⟩ := (hL.keep (he0.tr he)).get hLi
      rw [hp, Int.toNat_natCast]
      refine Nn.of (Ld.mk k0 (Ld.mk k1 (Ld.mk k2 (Ld.mk k3 (Ld.mk k4 (Ld.mk k5 ?_))))))
      refine (Hn.start w8).nw fun w9 K => ?_
      simp only [List.nil_append] at K
      iterate 6 (refine K.st 0 rfl (by simp) fun _ K => ?_; simp only [List.set_cons_zero, List.set_cons_succ, Nat.zero_add] at K)
      iterate 6 refine K.ld 0 rfl rfl ?_
      refine (c_size d L[i] _ (hT _ (List.getElem_mem hlt)) (he0.tr (he.tr K.ext))).mono ?_
      rintro r w10 he10
      exact ⟨L.length - (i + 1), by omega, i + 1, by rw [i64_id (by omega)]; rfl, by omega, rfl, he.tr (K.ext.tr he10)⟩
end
theorem rdC_struct' {P : Program} {w : World} {n : Nat} {t : TypeId} {cs : List Value} {L : List (Nat × TypeId)} (hL : fieldsAt P t = some L) (h : RdC P w (n + 1) t cs) : cs.length = P.cellsOf t ∧ ∀ (i o : Nat) (u : TypeId), L[i]? = some (o, u) → RdC P w n u ((cs.drop o).take (P.cellsOf u)) := by
  unfold RdC at h
  unfold fieldsAt at hL
  split at hL
  · rename_i fs hu
    rw [hu] at h
    cases hL
    refine ⟨h.1, fun i o u hi => ?_⟩
    rw [List.getElem?_map] at hi
    obtain ⟨f, h1, h2⟩ := Option.map_eq_some_iff.1 hi
    cases h2
    exact h.2 i f (by simpa using h1)
  · cases hL
/-- A slice's elements, one more than deep enough: what each is. -/
theorem rdC_slice' {P : Program} {w : World} {n k : Nat} {t e : TypeId} {cs : List Value} {α : Type} [Inhabited α] {Q : α → List Value → Prop} (hu : P.underlying t = some (.slice e)) (hk : P.cellsOf e = k) (h : RdC P w (n + 1) t cs)
    (hQ : ∀ cs', RdC P w n e cs' → ∃ q, Q q cs') : ∃ (s : Slc) (L : List α), cs = [Slc.v s] ∧ s.len = L.length ∧ L.length ≤ maxLen ∧ ∀ (i : Nat) (q : α), L[i]? = some q → ∃ a cs', s.p = some a ∧ (∀ j, j < k → w.cell? (a.add (i * k + j)) = cs'[j]?) ∧ Q q cs' := by
  unfold RdC at h
  rw [hu] at h
  obtain ⟨s, h1, h2⟩ := h
  rcases h2 with rfl | ⟨a, hp, g1, g2, hc⟩
  · exact ⟨_, [], h1, rfl, Nat.zero_le _, fun i q hi => by cases hi⟩
  · rw [hk] at hc
    have h' : ∀ i, ∃ q : α, i < s.len → ∃ cs', (∀ j, j < k → w.cell? (a.add (i * k + j)) = cs'[j]?) ∧ Q q cs' := fun i => by
      by_cases hi : i < s.len
      · obtain ⟨cs', hl, hc, hr⟩ := hc i hi
        obtain ⟨q, hq⟩ := hQ cs' hr
        exact ⟨q, fun _ => ⟨cs', hc, hq⟩⟩
      · exact ⟨default, fun hh => absurd hh hi⟩
    refine ⟨s, (List.range s.len).map fun i => Classical.choose (h' i), h1, by simp, by simp; omega, fun i q hi => ?_⟩
    rw [List.getElem?_map] at hi
    obtain ⟨i', hi1, rfl⟩ := Option.map_eq_some_iff.1 hi
    obtain ⟨hlt, rfl⟩ := List.getElem?_eq_some_iff.1 hi1
    simp only [List.length_range] at hlt
    simp only [List.getElem_range]
    obtain ⟨cs', c1, c2⟩ := Classical.choose_spec (h' i) hlt
    exact ⟨a, cs', hp, c1, c2⟩
theorem ob_fields : fieldsAt Tryd.prog 81 = some [(0, 3), (1, 2), (2, 3), (3, 9), (4, 31), (5, 60)] := by kernel_rfl
theorem ob_rd {w : World} : ∀ (n : Nat) (cs : List Value), RdC Tryd.prog w n 81 cs → ∃ o : Ob, cs = obrow o ∧ OT w n o
  | 0, cs, h => h.elim
  | 1, cs, h => ((rdC_struct' ob_fields h).2 0 0 3 rfl).elim
  | n + 2, cs, h => by
    obtain ⟨hl, hf⟩ := rdC_struct' ob_fields h
    rw [show Tryd.prog.cellsOf 81 = 6 by kernel_rfl] at hl
    obtain ⟨c0, c1, c2, c3, c4, c5, rfl⟩ : ∃ c0 c1 c2 c3 c4 c5, cs = [c0, c1, c2, c3, c4, c5] := by
      match cs, hl with
      | [c0, c1, c2, c3, c4, c5], _ => exact ⟨c0, c1, c2, c3, c4, c5, rfl⟩
    have f0 := hf 0 0 3 rfl
    have f1 := hf 1 1 2 rfl
    have f2 := hf 2 2 3 rfl
    have f3 := hf 3 3 9 rfl
    have f4 := hf 4 4 31 rfl
    have f5 := hf 5 5 60 rfl
    rw [show Tryd.prog.cellsOf 3 = 1 by kernel_rfl] at f0 f2
    rw [show Tryd.prog.cellsOf 2 = 1 by kernel_rfl] at f1
    rw [show Tryd.prog.cellsOf 9 = 1 by kernel_rfl] at f3
    rw [show Tryd.prog.cellsOf 31 = 1 by kernel_rfl] at f4
    rw [show Tryd.prog.cellsOf 60 = 1 by kernel_rfl] at f5
    obtain ⟨x0, e0, _⟩ := rdC_int Tryd.underlying3 f0
    obtain ⟨x1, e1, _⟩ := rdC_int Tryd.underlying2 f1
    obtain ⟨x2, e2, _⟩ := rdC_int Tryd.underlying3 f2
    obtain ⟨x3, e3, _⟩ := rdC_string Tryd.underlying9 f3
    obtain ⟨x4, K, e4, l4, m4, g4⟩ := rdC_slice' (Q := fun (b : ByteArray) cs => cs = [.string b]) Tryd.underlying31 (show Tryd.prog.cellsOf 9 = 1 by kernel_rfl) f4 fun cs' h => by
      obtain ⟨s, h1, _⟩ := rdC_string Tryd.underlying9 h
      exact ⟨s, h1⟩
    have : Inhabited Ob := ⟨ob0⟩
    obtain ⟨x5, L, e5, l5, m5, g5⟩ := rdC_slice' (Q := fun (o : Ob) cs => cs = obrow o ∧ OT w n o) Tryd.underlying60 (show Tryd.prog.cellsOf 81 = 6 by kernel_rfl) f5 fun cs' h => ob_rd n cs' h
    obtain rfl : c0 = .int .i64 x0 := by simpa using e0
    obtain rfl : c1 = .int .i64 x1 := by simpa using e1
    obtain rfl : c2 = .int .i64 x2 := by simpa using e2
    obtain rfl : c3 = .string x3 := by simpa using e3
    obtain rfl : c4 = Slc.v x4 := by simpa using e4
    obtain rfl : c5 = Slc.v x5 := by simpa using e5
    refine ⟨(x0, x1, x2, x3, x4, x5), rfl, ⟨K, m4, l4, fun i b hi => ?_⟩, L, m5, ⟨l5, by rw [obs_len, l5], fun j v hj => ?_⟩, fun o' ho => ?_⟩
    · obtain ⟨a, cs', ha, hc, rfl⟩ := g4 i b hi
      have := hc 0 (by omega)
      exact ⟨a, ha, by simpa using this⟩
    · have hjl : j < L.length * 6 := by
        rw [← obs_len]
        exact (List.getElem?_eq_some_iff.1 hj).1
      have hi : j / 6 < L.length := by omega
      have hjj : j = j / 6 * 6 + j % 6 := by omega
      have hLi : L[j / 6]? = some L[j / 6] := List.getElem?_eq_getElem hi
      obtain ⟨a, cs', ha, hc, rfl, _⟩ := g5 _ _ hLi
      refine ⟨a, ha, ?_⟩
      have h1 := hc (j % 6) (by omega)
      rw [hjj] at hj ⊢
      rw [obs_get hLi (by omega)] at hj
      rw [h1]
      exact hj
    · obtain ⟨i, hi, rfl⟩ := List.mem_iff_getElem.1 ho
      obtain ⟨_, _, _, _, _, h⟩ := g5 i _ (List.getElem?_eq_getElem hi)
      exact OT.mono n _ h
theorem ob_arg {H : Type} {enc : TypeId × Value → H} {W : World} {spare : Nat → Bool} {held : Bool} {v : Value} {d : DataW H} {ps : List MemPlace} {rr : Reach} {b0 : Nat}
    (h0 : Value.okWide Tryd.prog W rr b0 81 v) (h : DataW.Trod enc Tryd.prog W 0 spare held 81 v d ps) : ∃ o : Ob, v = .agg (obrow o).toArray ∧ ∃ n, OT W n o := by
  obtain ⟨cs, rfl, hl, n, hn⟩ := rdC_arg_agg (by rw [Tryd.underlying81]; rfl) h0 h
  obtain ⟨o, rfl, ho⟩ := ob_rd n cs hn
  exact ⟨o, rfl, n, ho⟩
end Mat
end Go.Proofs.YtjbeembbnkmpeaaDoor

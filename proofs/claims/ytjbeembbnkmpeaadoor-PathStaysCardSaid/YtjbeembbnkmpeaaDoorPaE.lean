/- Paths: operands as numbers, known names, the current point; what Do does, plain. Conditions: sizes. -/
import Derived.Test.YtjbeembbnkmpeaaDoorPaD
namespace Go.Proofs.YtjbeembbnkmpeaaDoor
namespace Pat
open Sh Mat Fix Opr
set_option linter.unusedVariables false
set_option linter.unusedSimpArgs false
set_option maxRecDepth 4000
set_option maxHeartbeats 4000000
def nine : List By := [[109], [108], [99], [118], [121], [104], [114, 101], [87], [87, 42]]
def nmO : List Ob → Option (List Int)
  | [] => some []
  | o :: r => (numV o).bind fun n => (nmO r).bind fun l => some (n :: l)
theorem nmO_len : ∀ {L : List Ob} {l : List Int}, nmO L = some l → l.length = L.length
  | [], l, h => by cases h; rfl
  | o :: r, l, h => by
    unfold nmO at h
    cases hn : numV o with
    | none => rw [hn] at h; cases h
    | some n =>
      rw [hn, Option.bind_some] at h
      cases hr : nmO r with
      | none => rw [hr] at h; cases h
      | some l' =>
        rw [hr, Option.bind_some] at h
        cases h
        rw [List.length_cons, List.length_cons, nmO_len hr]
/-- What is left of the reading at place i, with l read so far. -/
def nmAt (L : List Ob) (i : Nat) (l : List Int) : Option (List Int) := (nmO (L.drop i)).bind fun r => some (l ++ r)
theorem nmAt_0 (L : List Ob) : nmAt L 0 [] = nmO L := by
  unfold nmAt
  rw [List.drop_zero]
  cases nmO L <;> rfl
theorem nmAt_end (L : List Ob) (l : List Int) : nmAt L L.length l = some l := by
  unfold nmAt
  rw [List.drop_length]
  simp [nmO]
theorem nmAt_no {L : List Ob} {i : Nat} (hi : i < L.length) (l : List Int) (hn : numV L[i] = none) : nmAt L i l = none := by
  unfold nmAt
  rw [List.drop_eq_getElem_cons hi]
  conv => lhs; unfold nmO
  rw [hn]
  rfl
theorem nmAt_yes {L : List Ob} {i : Nat} (hi : i < L.length) (l : List Int) {n : Int} (hn : numV L[i] = some n) : nmAt L i l = nmAt L (i + 1) (l ++ [n]) := by
  unfold nmAt
  rw [List.drop_eq_getElem_cons hi]
  conv => lhs; unfold nmO
  rw [hn]
  cases nmO (L.drop (i + 1)) with
  | none => rfl
  | some r => simp
theorem chk0 {nm dd : By} {L : List Ob} (h : chkF nm L dd = 0) : takes nm ≠ [63] ∧ (takes nm).length = L.length ∧ fitsT (takes nm) L = true := by
  unfold chkF at h
  split at h
  · cases h
  · rename_i h1
    split at h
    · cases h
    · rename_i h2
      split at h
      · cases h
      · rename_i h3
        exact ⟨h1, Decidable.not_not.1 h2, by simpa using h3⟩
theorem nine_takes : ∀ nm ∈ nine, ∀ b ∈ takes nm, b = 110 := by
  intro nm h
  simp only [nine, List.mem_cons, List.not_mem_nil, or_false] at h
  rcases h with rfl | rfl | rfl | rfl | rfl | rfl | rfl | rfl | rfl <;> decide +kernel
theorem nine_kinds {nm d : By} {L : List Ob} (hn : nm ∈ nine) (hc : chkF nm L d = 0) : ∀ o ∈ L, o.1 = 2 ∨ o.1 = 3 := by
  obtain ⟨_, hlen, hfit⟩ := chk0 hc
  intro o ho
  obtain ⟨i, hi⟩ := List.mem_iff_getElem?.1 ho
  have hlt := (List.getElem?_eq_some_iff.1 hi).1
  have hb : (takes nm)[i]? = some (takes nm)[i] := List.getElem?_eq_getElem (by omega)
  have hfk : fitsK (takes nm)[i] o.1 = true := by
    by_cases hh : fitsK (takes nm)[i] o.1 = true
    · exact hh
    · rw [fitsT_no hb hi (by simpa using hh)] at hfit
      cases hfit
  rw [nine_takes nm hn _ (List.getElem_mem (by omega))] at hfk
  simpa [fitsK] using hfk
/-- A path: its segments, the point where the last part began, whether it clips. -/
structure Pa where
  L : List Sg
  bg : Int × Int
  cl : Bool
def curS (L : List Sg) (bg : Int × Int) : Int × Int := match L.getLast? with
  | none => (0, 0)
  | some s => if s.1 = 4 then bg else (s.2.2.2.2.2.1, s.2.2.2.2.2.2)
def bgF (bg : Int × Int) (s : Sg) : Int × Int := if s.1 = 1 then (s.2.2.2.2.2.1, s.2.2.2.2.2.2) else bg
def clipN (nm : By) : Bool := decide (nm = [87] ∨ nm = [87, 42])
def doP (p : Pa) (nm d : By) (L : List Ob) (m : Mx) : Int × Pa := if nm ∉ nine then (8, p) else if chkF nm L d ≠ 0 then (chkF nm L d, p)
  else if nm ≠ [109] ∧ nm ≠ [114, 101] ∧ p.L = [] then (29, p)
  else match nmO L with
    | none => (2, p)
    | some l => match drawF nm m (curS p.L p.bg) l with
      | none => (2, p)
      | some T => if p.L.length + T.length ≤ 8192 then (0, ⟨p.L ++ T, T.foldl bgF p.bg, p.cl || clipN nm⟩) else (6, p)
theorem draw_len {nm : By} {m : Mx} {h : Int × Int} {l : List Int} {T : List Sg} (hd : drawF nm m h l = some T) : T.length ≤ 5 := by
  have fin : ∀ {T' : List Sg}, T'.length ≤ 5 → some T' = some T → T.length ≤ 5 := fun h1 h2 => by cases h2; exact h1
  have b : ∀ {α : Type} {o : Option α} {f : α → Option (List Sg)}, o.bind f = some T → ∃ y, f y = some T := fun {α o f} h => by
    cases o with
    | none => cases h
    | some y => exact ⟨y, h⟩
  unfold drawF at hd
  split at hd
  · obtain ⟨_, h⟩ := b hd; exact fin (by simp) h
  split at hd
  · obtain ⟨_, h⟩ := b hd; exact fin (by simp) h
  split at hd
  · obtain ⟨_, h⟩ := b hd; obtain ⟨_, h⟩ := b h; obtain ⟨_, h⟩ := b h; exact fin (by simp) h
  split at hd
  · obtain ⟨_, h⟩ := b hd; obtain ⟨_, h⟩ := b h; exact fin (by simp) h
  split at hd
  · obtain ⟨_, h⟩ := b hd; obtain ⟨_, h⟩ := b h; exact fin (by simp) h
  split at hd
  · exact fin (by decide) hd
  split at hd
  · unfold rectF at hd
    obtain ⟨_, h⟩ := b hd; obtain ⟨_, h⟩ := b h; obtain ⟨_, h⟩ := b h; obtain ⟨_, h⟩ := b h; obtain ⟨_, h⟩ := b h; obtain ⟨_, h⟩ := b h; exact fin (by simp) h
  · exact fin (by decide) hd
theorem draw_here {nm : By} (m : Mx) (h h' : Int × Int) (l : List Int) (hn : nm = [109] ∨ nm = [114, 101]) : drawF nm m h l = drawF nm m h' l := by
  rcases hn with rfl | rfl <;> rfl
section
variable {w0 w w' w1 : World} {s : Slc} {L : List Ob} {a d : ByteArray}
attribute [local irreducible] Ld Sh.St Nw Nn LdS
theorem c_knows (a : ByteArray) (w : World) : C78 a w fun r w1 => r = decide (bl a ∈ nine) ∧ Ext (fun _ => False) w w1 := by
  refine T78 _ _ _ ?_
  unfold S78
  refine (Hn.start w).nw (cs := strsB nine) fun w2 H => ?_
  refine (c_contains (SL.blk (H.get 0 rfl) rfl) (by decide) a).mono ?_
  rintro r w3 ⟨rfl, rfl⟩
  exact ⟨rfl, H.ext⟩
theorem c_nums (h : OV w s L) (hl : L.length ≤ 100000) (hk : ∀ o ∈ L, o.1 = 2 ∨ o.1 = 3) : C83 (a, s, d) w fun r e w1 => Ext (fun _ => False) w w1 ∧ match nmO L with
    | none => e = 2
    | some l => e = 0 ∧ IO w w1 r l := by
  refine T83 (a, s, d) _ _ ?_
  unfold S83
  refine (Hn.start w).nw fun w2 H => ?_
  simp only [List.nil_append, add_lit, Nat.zero_add] at H ⊢
  have hlen := h.1
  refine H.ld 0 rfl rfl ?_
  refine ⟨fun n st w3 => ∃ (i : Nat) (l : List Int), st.2 = (i : Int) ∧ i ≤ L.length ∧ n = L.length - i ∧ l.length ≤ i ∧ IO w w3 st.1 l ∧ Ext (fun _ => False) w w3 ∧ nmO L = nmAt L i l, L.length, ⟨0, [], rfl, by omega, rfl, Nat.le_refl _, IO.nil _ _, H.ext, (nmAt_0 L).symm⟩, ?_⟩
  clear H
  rintro n ⟨r, st⟩ w3 ⟨i, l, hst, hi, rfl, hll, ho, e3, hn⟩
  simp only at hst ho
  subst hst
  unfold S83L1
  dsimp only
  rw [hlen]
  refine Br.dec (fun q => ⟨by omega, by omega, ?_⟩) fun q => ?_
  · have hlt : i < L.length := by omega
    have hLi : L[i]? = some L[i] := List.getElem?_eq_getElem hlt
    obtain ⟨ad, ha, c0, c1, c2, c3, c4, c5⟩ := (h.keep e3).get hLi
    have hkk := hk L[i] (List.getElem_mem hlt)
    rw [ha, Int.toNat_natCast]
    refine Nn.of (Ld.mk c0 (Ld.mk c1 (Ld.mk c2 (Ld.mk c3 (Ld.mk c4 (Ld.mk c5 ?_))))))
    refine (Hn.start w3).nw fun w4 H => ?_
    simp only [List.nil_append, add_lit, Nat.zero_add] at H ⊢
    iterate 6 (refine H.st 0 rfl (by simp) fun _ H => ?_; simp only [List.set_cons_zero, List.set_cons_succ] at H)
    have num : ∀ (B : World → Prop) (K : Slc → World → Prop) (v : World), Ext (fun _ => False) w3 v → (numV L[i] = none → ∀ w5, Ext (fun _ => False) w w5 → B w5) → (∀ x r' w5, numV L[i] = some x → IO w w5 r' (l ++ [x]) → Ext (fun _ => False) w w5 → K r' w5) →
        C143 (L[i].1, L[i].2.1, L[i].2.2.1, L[i].2.2.2.1, L[i].2.2.2.2.1, L[i].2.2.2.2.2) v fun r28 r29 vw30 => Br (!r29) (B vw30) (Nw vw30 (.cells #[.int .i64 r28] 2) fun vw31 =>
            Rn Tryd.prog (Builtin.append_ #[24, 24] 24 #[Slc.v r, Slc.v ((⟨some ⟨vw30.heap.size, 0, none⟩, 1, 1⟩ : Slc))]) vw31 Slc.v fun (x32 : Slc) vw33 => K x32 vw33) := by
      intro B K v ev k1 k2
      refine (c_number L[i] v).mono ?_
      rintro x ok w5 ⟨hv, e5⟩
      have e35 := ev.tr e5
      cases hx : numV L[i] with
      | none =>
        rw [hx] at hv
        cases hv
        exact Br.t rfl (k1 hx w5 (e3.tr e35))
      | some y =>
        rw [hx] at hv
        cases hv
        exact Br.f rfl (IO.snoc (w0 := w) ⟨ho.1.keep e35 fun _ _ e => e, ho.2⟩ (e3.tr e35) (by omega) fun r' w' ho' e' => k2 x r' w' hx ho' e')
    have hw : IntKind.i64.wrap ((i : Int) + 1) = ((i + 1 : Nat) : Int) := by rw [i64_id (by omega)]; rfl
    rw [hw]
    have rest : ∀ x r' w5, numV L[i] = some x → IO w w5 r' (l ++ [x]) → Ext (fun _ => False) w w5 → ∃ m', m' < L.length - i ∧ ∃ (k : Nat) (l' : List Int), ((i + 1 : Nat) : Int) = (k : Int) ∧ k ≤ L.length ∧ m' = L.length - k ∧ l'.length ≤ k ∧ IO w w5 r' l' ∧ Ext (fun _ => False) w w5 ∧ nmO L = nmAt L k l' := fun x r' w5 hx ho' e' =>
      ⟨L.length - (i + 1), by omega, i + 1, l ++ [x], rfl, by omega, rfl, by rw [List.length_append, List.length_singleton]; omega, ho', e', hn.trans (nmAt_yes hlt l hx)⟩
    refine H.ld 0 rfl rfl (Br.ne (fun q2 => H.ld 0 rfl rfl (Br.ne (fun q3 => (hkk.elim q2 q3).elim) fun q3 => ?_)) fun q2 => ?_)
    · iterate 6 refine H.ld 0 rfl rfl ?_
      exact num _ _ _ H.ext (fun hx w5 e5 => by rw [hn, nmAt_no hlt l hx]; exact ⟨e5, by trivial⟩) rest
    · iterate 6 refine H.ld 0 rfl rfl ?_
      exact num _ _ _ H.ext (fun hx w5 e5 => by rw [hn, nmAt_no hlt l hx]; exact ⟨e5, by trivial⟩) rest
  · have : i = L.length := by omega
    subst this
    rw [nmAt_end] at hn
    rw [hn]
    exact ⟨e3, by trivial, ho⟩
end
end Pat
end Go.Proofs.YtjbeembbnkmpeaaDoor

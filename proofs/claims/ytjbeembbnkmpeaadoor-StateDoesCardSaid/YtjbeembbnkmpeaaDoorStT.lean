/- The reference's state: numbers, text operators, colours. Conditions: sizes. -/
import Derived.Test.YtjbeembbnkmpeaaDoorStQ
namespace Go.Proofs.YtjbeembbnkmpeaaDoor
namespace Ste
open Sh Mat Opr
set_option linter.unusedVariables false
set_option linter.unusedSimpArgs false
set_option maxRecDepth 8000
set_option maxHeartbeats 8000000
abbrev TT : Type := Int × Int × Int × Int × Int × Int × ByteArray × Int
def tx (g : G) : TT := (g.2.2.2.2.2.2.2.2.2.2.2.2.2.2.2.2.2.2.2.2.2.2.1, g.2.2.2.2.2.2.2.2.2.2.2.2.2.2.2.2.2.2.2.2.2.2.2.1, g.2.2.2.2.2.2.2.2.2.2.2.2.2.2.2.2.2.2.2.2.2.2.2.2.1, g.2.2.2.2.2.2.2.2.2.2.2.2.2.2.2.2.2.2.2.2.2.2.2.2.2.1, g.2.2.2.2.2.2.2.2.2.2.2.2.2.2.2.2.2.2.2.2.2.2.2.2.2.2.1, g.2.2.2.2.2.2.2.2.2.2.2.2.2.2.2.2.2.2.2.2.2.2.2.2.2.2.2.1, g.2.2.2.2.2.2.2.2.2.2.2.2.2.2.2.2.2.2.2.2.2.2.2.2.2.2.2.2.1, g.2.2.2.2.2.2.2.2.2.2.2.2.2.2.2.2.2.2.2.2.2.2.2.2.2.2.2.2.2)
def upT (g : G) (c : TT) : G := (g.1, g.2.1, g.2.2.1, g.2.2.2.1, g.2.2.2.2.1, g.2.2.2.2.2.1, g.2.2.2.2.2.2.1, g.2.2.2.2.2.2.2.1, g.2.2.2.2.2.2.2.2.1, g.2.2.2.2.2.2.2.2.2.1, g.2.2.2.2.2.2.2.2.2.2.1, g.2.2.2.2.2.2.2.2.2.2.2.1, g.2.2.2.2.2.2.2.2.2.2.2.2.1, g.2.2.2.2.2.2.2.2.2.2.2.2.2.1, g.2.2.2.2.2.2.2.2.2.2.2.2.2.2.1, g.2.2.2.2.2.2.2.2.2.2.2.2.2.2.2.1, g.2.2.2.2.2.2.2.2.2.2.2.2.2.2.2.2.1, g.2.2.2.2.2.2.2.2.2.2.2.2.2.2.2.2.2.1, g.2.2.2.2.2.2.2.2.2.2.2.2.2.2.2.2.2.2.1, g.2.2.2.2.2.2.2.2.2.2.2.2.2.2.2.2.2.2.2.1, g.2.2.2.2.2.2.2.2.2.2.2.2.2.2.2.2.2.2.2.2.1, g.2.2.2.2.2.2.2.2.2.2.2.2.2.2.2.2.2.2.2.2.2.1, c.1, c.2.1, c.2.2.1, c.2.2.2.1, c.2.2.2.2.1, c.2.2.2.2.2.1, c.2.2.2.2.2.2.1, c.2.2.2.2.2.2.2)
theorem setT (g : G) (c : TT) : ((((((((Sig.cells LG g).set 22 (.int .i64 c.1)).set 23 (.int .i64 c.2.1)).set 24 (.int .i64 c.2.2.1)).set 25 (.int .i64 c.2.2.2.1)).set 26 (.int .i64 c.2.2.2.2.1)).set 27 (.int .i64 c.2.2.2.2.2.1)).set 28 (.string c.2.2.2.2.2.2.1)).set 29 (.int .i64 c.2.2.2.2.2.2.2) = Sig.cells LG (upT g c) := rfl
theorem dsh_T (g : G) (c : TT) : dsh (upT g c) = dsh g := by
  unfold dsh upT
  dsimp only
theorem er_T (g : G) (c : TT) : er (upT g c) = upT (er g) c := by
  unfold er up10 upT
  dsimp only
theorem upT_22 (g : G) (n : Int) : upT g (n, g.2.2.2.2.2.2.2.2.2.2.2.2.2.2.2.2.2.2.2.2.2.2.2.1, g.2.2.2.2.2.2.2.2.2.2.2.2.2.2.2.2.2.2.2.2.2.2.2.2.1, g.2.2.2.2.2.2.2.2.2.2.2.2.2.2.2.2.2.2.2.2.2.2.2.2.2.1, g.2.2.2.2.2.2.2.2.2.2.2.2.2.2.2.2.2.2.2.2.2.2.2.2.2.2.1, g.2.2.2.2.2.2.2.2.2.2.2.2.2.2.2.2.2.2.2.2.2.2.2.2.2.2.2.1, g.2.2.2.2.2.2.2.2.2.2.2.2.2.2.2.2.2.2.2.2.2.2.2.2.2.2.2.2.1, g.2.2.2.2.2.2.2.2.2.2.2.2.2.2.2.2.2.2.2.2.2.2.2.2.2.2.2.2.2) = up22 g n := by
  unfold upT up22
  dsimp only
theorem upT_23 (g : G) (n : Int) : upT g (g.2.2.2.2.2.2.2.2.2.2.2.2.2.2.2.2.2.2.2.2.2.2.1, n, g.2.2.2.2.2.2.2.2.2.2.2.2.2.2.2.2.2.2.2.2.2.2.2.2.1, g.2.2.2.2.2.2.2.2.2.2.2.2.2.2.2.2.2.2.2.2.2.2.2.2.2.1, g.2.2.2.2.2.2.2.2.2.2.2.2.2.2.2.2.2.2.2.2.2.2.2.2.2.2.1, g.2.2.2.2.2.2.2.2.2.2.2.2.2.2.2.2.2.2.2.2.2.2.2.2.2.2.2.1, g.2.2.2.2.2.2.2.2.2.2.2.2.2.2.2.2.2.2.2.2.2.2.2.2.2.2.2.2.1, g.2.2.2.2.2.2.2.2.2.2.2.2.2.2.2.2.2.2.2.2.2.2.2.2.2.2.2.2.2) = up23 g n := by
  unfold upT up23
  dsimp only
theorem upT_24 (g : G) (n : Int) : upT g (g.2.2.2.2.2.2.2.2.2.2.2.2.2.2.2.2.2.2.2.2.2.2.1, g.2.2.2.2.2.2.2.2.2.2.2.2.2.2.2.2.2.2.2.2.2.2.2.1, n, g.2.2.2.2.2.2.2.2.2.2.2.2.2.2.2.2.2.2.2.2.2.2.2.2.2.1, g.2.2.2.2.2.2.2.2.2.2.2.2.2.2.2.2.2.2.2.2.2.2.2.2.2.2.1, g.2.2.2.2.2.2.2.2.2.2.2.2.2.2.2.2.2.2.2.2.2.2.2.2.2.2.2.1, g.2.2.2.2.2.2.2.2.2.2.2.2.2.2.2.2.2.2.2.2.2.2.2.2.2.2.2.2.1, g.2.2.2.2.2.2.2.2.2.2.2.2.2.2.2.2.2.2.2.2.2.2.2.2.2.2.2.2.2) = up24 g n := by
  unfold upT up24
  dsimp only
theorem upT_25 (g : G) (n : Int) : upT g (g.2.2.2.2.2.2.2.2.2.2.2.2.2.2.2.2.2.2.2.2.2.2.1, g.2.2.2.2.2.2.2.2.2.2.2.2.2.2.2.2.2.2.2.2.2.2.2.1, g.2.2.2.2.2.2.2.2.2.2.2.2.2.2.2.2.2.2.2.2.2.2.2.2.1, n, g.2.2.2.2.2.2.2.2.2.2.2.2.2.2.2.2.2.2.2.2.2.2.2.2.2.2.1, g.2.2.2.2.2.2.2.2.2.2.2.2.2.2.2.2.2.2.2.2.2.2.2.2.2.2.2.1, g.2.2.2.2.2.2.2.2.2.2.2.2.2.2.2.2.2.2.2.2.2.2.2.2.2.2.2.2.1, g.2.2.2.2.2.2.2.2.2.2.2.2.2.2.2.2.2.2.2.2.2.2.2.2.2.2.2.2.2) = up25 g n := by
  unfold upT up25
  dsimp only
theorem upT_27 (g : G) (n : Int) : upT g (g.2.2.2.2.2.2.2.2.2.2.2.2.2.2.2.2.2.2.2.2.2.2.1, g.2.2.2.2.2.2.2.2.2.2.2.2.2.2.2.2.2.2.2.2.2.2.2.1, g.2.2.2.2.2.2.2.2.2.2.2.2.2.2.2.2.2.2.2.2.2.2.2.2.1, g.2.2.2.2.2.2.2.2.2.2.2.2.2.2.2.2.2.2.2.2.2.2.2.2.2.1, g.2.2.2.2.2.2.2.2.2.2.2.2.2.2.2.2.2.2.2.2.2.2.2.2.2.2.1, n, g.2.2.2.2.2.2.2.2.2.2.2.2.2.2.2.2.2.2.2.2.2.2.2.2.2.2.2.2.1, g.2.2.2.2.2.2.2.2.2.2.2.2.2.2.2.2.2.2.2.2.2.2.2.2.2.2.2.2.2) = up27 g n := by
  unfold upT up27
  dsimp only
theorem upT_29 (g : G) (n : Int) : upT g (g.2.2.2.2.2.2.2.2.2.2.2.2.2.2.2.2.2.2.2.2.2.2.1, g.2.2.2.2.2.2.2.2.2.2.2.2.2.2.2.2.2.2.2.2.2.2.2.1, g.2.2.2.2.2.2.2.2.2.2.2.2.2.2.2.2.2.2.2.2.2.2.2.2.1, g.2.2.2.2.2.2.2.2.2.2.2.2.2.2.2.2.2.2.2.2.2.2.2.2.2.1, g.2.2.2.2.2.2.2.2.2.2.2.2.2.2.2.2.2.2.2.2.2.2.2.2.2.2.1, g.2.2.2.2.2.2.2.2.2.2.2.2.2.2.2.2.2.2.2.2.2.2.2.2.2.2.2.1, g.2.2.2.2.2.2.2.2.2.2.2.2.2.2.2.2.2.2.2.2.2.2.2.2.2.2.2.2.1, n) = up29 g n := by
  unfold upT up29
  dsimp only
theorem upT_Tf (g : G) (s : ByteArray) (n : Int) : upT g (g.2.2.2.2.2.2.2.2.2.2.2.2.2.2.2.2.2.2.2.2.2.2.1, g.2.2.2.2.2.2.2.2.2.2.2.2.2.2.2.2.2.2.2.2.2.2.2.1, g.2.2.2.2.2.2.2.2.2.2.2.2.2.2.2.2.2.2.2.2.2.2.2.2.1, g.2.2.2.2.2.2.2.2.2.2.2.2.2.2.2.2.2.2.2.2.2.2.2.2.2.1, n, g.2.2.2.2.2.2.2.2.2.2.2.2.2.2.2.2.2.2.2.2.2.2.2.2.2.2.2.1, s, g.2.2.2.2.2.2.2.2.2.2.2.2.2.2.2.2.2.2.2.2.2.2.2.2.2.2.2.2.2) = up26 (up28 g s) n := by
  unfold upT up26 up28
  dsimp only
/-- The numbers among operands, as the reference reads them. -/
def nmR : List Ob → Option (List Int)
  | [] => some []
  | o :: r => if o.1 = 2 ∨ o.1 = 3 then (match numV o with
      | none => none
      | some n => match nmR r with
        | none => none
        | some l => some (n :: l)) else nmR r
theorem nmR_nums : ∀ (L : List Ob), (∀ o ∈ L, o.1 = 2 ∨ o.1 = 3) → nums L = (match nmR L with
    | none => .error 2
    | some l => .ok l)
  | [], _ => rfl
  | o :: r, h => by
    have h1 := h o (List.mem_cons_self ..)
    have ih := nmR_nums r fun o ho => h o (List.mem_cons_of_mem _ ho)
    unfold nums nmR num
    rw [if_pos h1]
    cases numV o with
    | none => rfl
    | some n =>
      dsimp only
      rw [ih]
      cases nmR r <;> rfl
theorem nmR_len : ∀ {L : List Ob} {l : List Int}, nmR L = some l → l.length ≤ L.length
  | [], l, h => by cases h; exact Nat.le_refl _
  | o :: r, l, h => by
    unfold nmR at h
    split at h
    · split at h
      · cases h
      · split at h
        · cases h
        · rename_i l' hl
          cases h
          have := nmR_len hl
          simp only [List.length_cons]
          omega
    · have := nmR_len h
      simp only [List.length_cons]
      omega
/-- What is left of the reading at place i, with l read so far. -/
def nmAt (L : List Ob) (i : Nat) (l : List Int) : Option (List Int) := match nmR (L.drop i) with
  | none => none
  | some r => some (l ++ r)
theorem nmAt_0 (L : List Ob) : nmAt L 0 [] = nmR L := by
  unfold nmAt
  rw [List.drop_zero]
  cases nmR L <;> rfl
theorem nmAt_end (L : List Ob) (l : List Int) : nmAt L L.length l = some l := by
  unfold nmAt
  rw [List.drop_length]
  simp [nmR]
theorem nmAt_skip {L : List Ob} {i : Nat} (hi : i < L.length) (l : List Int) (h : ¬ (L[i].1 = 2 ∨ L[i].1 = 3)) : nmAt L i l = nmAt L (i + 1) l := by
  unfold nmAt
  rw [List.drop_eq_getElem_cons hi]
  conv => lhs; unfold nmR
  rw [if_neg h]
theorem nmAt_no {L : List Ob} {i : Nat} (hi : i < L.length) (l : List Int) (h : L[i].1 = 2 ∨ L[i].1 = 3) (hn : numV L[i] = none) : nmAt L i l = none := by
  unfold nmAt
  rw [List.drop_eq_getElem_cons hi]
  conv => lhs; unfold nmR
  rw [if_pos h, hn]
theorem nmAt_yes {L : List Ob} {i : Nat} (hi : i < L.length) (l : List Int) (h : L[i].1 = 2 ∨ L[i].1 = 3) {n : Int} (hn : numV L[i] = some n) : nmAt L i l = nmAt L (i + 1) (l ++ [n]) := by
  unfold nmAt
  rw [List.drop_eq_getElem_cons hi]
  conv => lhs; unfold nmR
  rw [if_pos h, hn]
  dsimp only
  cases nmR (L.drop (i + 1)) with
  | none => rfl
  | some r => simp
section
variable {w w1 : World} {s n : Slc} {l : List Int} {L : List Ob} {x : G} {D : List Int} {a d : ByteArray}
theorem at0N {K : Int → Prop} (h : IV w n l) (hl : 0 < l.length) (k : K (l.getD 0 0)) : 0 ≤ (0 : Int) ∧ (0 : Int) < (n.len : Nat) ∧ Nn n.p fun a => Ld w (a.add (((0 : Int)).toNat * 1)) (Value.int .i64) K := by
  obtain ⟨ad, ha, hc⟩ := h.get hl
  have := h.1
  rw [ha]
  exact ⟨by omega, by omega, Nn.of (Ld.mk hc k)⟩
attribute [local irreducible] Ld Sh.St Nw Nn LdS LdT LdST StT
theorem r_numbers (h : OV w s L) (hl : L.length ≤ 100000) : C116 (a, s, d) w fun r ok w1 => Ext (fun _ => False) w w1 ∧ match nmR L with
    | none => ok = false ∧ r = ⟨none, 0, 0⟩
    | some l => ok = true ∧ IO w w1 r l := by
  refine T116 (a, s, d) _ _ ?_
  unfold S116
  refine (Hn.start w).nw fun w2 H => ?_
  simp only [List.nil_append] at H
  have hlen := h.1
  refine ⟨fun m st w3 => ∃ (i : Nat) (l : List Int), st.2 = (i : Int) ∧ i ≤ L.length ∧ m = L.length - i ∧ l.length ≤ i ∧ IO w2 w3 st.1 l ∧ Ext (fun _ => False) w2 w3 ∧ nmR L = nmAt L i l, L.length, ⟨0, [], rfl, by omega, rfl, Nat.le_refl _, IO.nil _ _, Ext.refl _ _, (nmAt_0 L).symm⟩, ?_⟩
  have H2 := H
  clear H
  rintro m ⟨r, i⟩ w3 ⟨i, l, hi, hil, rfl, hll, ho, e23, hn⟩
  unfold S116L1
  dsimp only at *
  subst hi
  simp only [add_lit, Nat.zero_add]
  have H := H2.keep e23
  have e3 := H.ext
  refine H.ld 0 rfl rfl ?_
  rw [hlen]
  refine Br.dec (fun q => ?_) fun q => ?_
  · have hlt : i < L.length := by omega
    obtain ⟨ad, ha, c0, c1, c2, c3, c4, c5⟩ := (h.keep e3).get (List.getElem?_eq_getElem hlt)
    have hw : IntKind.i64.wrap ((i : Int) + 1) = ((i + 1 : Nat) : Int) := by rw [i64_id (by omega)]; rfl
    have num : ∀ (B : World → Prop) (K : Slc → World → Prop), (L[i].1 = 2 ∨ L[i].1 = 3) → (numV L[i] = none → ∀ w5, Ext (fun _ => False) w w5 → B w5) → (∀ x r' w5, numV L[i] = some x → IO w2 w5 r' (l ++ [x]) → Ext (fun _ => False) w2 w5 → K r' w5) →
        Ld w3 (⟨w.heap.size, 1, none⟩ : Addr) Slc.v fun (x20 : Slc) => 0 ≤ (i : Int) ∧ (i : Int) < (x20.len : Nat) ∧ Nn x20.p fun a21 =>
        Ld w3 (a21.add (i * 6)) (Value.int .i64) fun (x22 : Int) => Ld w3 ((a21.add (i * 6)).add 1) (Value.int .i64) fun (x23 : Int) => Ld w3 ((a21.add (i * 6)).add 2) (Value.int .i64) fun (x24 : Int) =>
        Ld w3 ((a21.add (i * 6)).add 3) Value.string fun (x25 : ByteArray) => Ld w3 ((a21.add (i * 6)).add 4) Slc.v fun (x26 : Slc) => Ld w3 ((a21.add (i * 6)).add 5) Slc.v fun (x27 : Slc) =>
        C157 (x22, x23, x24, x25, x26, x27) w3 fun r28 r29 vw30 => Br (!r29) (B vw30) (Nw vw30 (.cells #[.int .i64 r28] 2) fun vw31 =>
            Rn Tryd.prog (Builtin.append_ #[24, 24] 24 #[Slc.v r, Slc.v ((⟨some ⟨vw30.heap.size, 0, none⟩, 1, 1⟩ : Slc))]) vw31 Slc.v fun (x32 : Slc) vw33 => K x32 vw33) := by
      intro B K hk k1 k2
      refine H.ld 0 rfl rfl ?_
      rw [hlen, ha]
      refine ⟨by omega, by omega, Nn.of (Ld.mk c0 (Ld.mk c1 (Ld.mk c2 (Ld.mk c3 (Ld.mk c4 (Ld.mk c5 ?_))))))⟩
      refine (r_number L[i] w3).mono ?_
      rintro v ok w5 ⟨hv, e5⟩
      cases hx : numV L[i] with
      | none =>
        rw [hx] at hv
        cases hv
        exact Br.t rfl (k1 hx w5 (e3.tr e5))
      | some x =>
        rw [hx] at hv
        cases hv
        refine Br.f rfl (IO.snoc (w0 := w2) ⟨ho.1.keep e5 fun _ _ e => e, ho.2⟩ (e23.tr e5) (by omega) fun r' w' ho' e' => k2 v r' w' hx ho' e')
    rw [hw]
    refine H.ld 0 rfl rfl ?_
    rw [hlen, ha]
    refine ⟨by omega, by omega, Nn.of ?_⟩
    rw [Int.toNat_natCast]
    have rest : (L[i].1 = 2 ∨ L[i].1 = 3) → ∀ x r' w5, numV L[i] = some x → IO w2 w5 r' (l ++ [x]) → Ext (fun _ => False) w2 w5 → ∃ m', m' < L.length - i ∧ ∃ (k : Nat) (l' : List Int), (r', ((i + 1 : Nat) : Int)).2 = (k : Int) ∧ k ≤ L.length ∧ m' = L.length - k ∧ l'.length ≤ k ∧ IO w2 w5 (r', ((i + 1 : Nat) : Int)).1 l' ∧ Ext (fun _ => False) w2 w5 ∧ nmR L = nmAt L k l' := fun hk x r' w5 hx ho' e' =>
      ⟨L.length - (i + 1), by omega, i + 1, l ++ [x], rfl, by omega, rfl, by rw [List.length_append, List.length_singleton]; omega, ho', e', hn.trans (nmAt_yes hlt l hk hx)⟩
    refine Ld.mk c0 (Br.ne (fun q2 => ?_) fun q2 => ?_)
    · refine H.ld 0 rfl rfl ?_
      rw [hlen, ha]
      refine ⟨by omega, by omega, Nn.of ?_⟩
      refine Ld.mk c0 (Br.ne (fun q3 => ?_) fun q3 => ?_)
      · have hno : ¬ (L[i].1 = 2 ∨ L[i].1 = 3) := fun h => h.elim q2 q3
        exact ⟨L.length - (i + 1), by omega, i + 1, l, rfl, by omega, rfl, by omega, ho, e23, hn.trans (nmAt_skip hlt l hno)⟩
      · exact num _ _ (.inr q3) (fun hx w5 e5 => by rw [hn, nmAt_no hlt l (.inr q3) hx]; exact ⟨e5, by first | trivial | exact ⟨rfl, rfl⟩ | exact ⟨trivial, trivial⟩⟩) (rest (.inr q3))
    · exact num _ _ (.inl q2) (fun hx w5 e5 => by rw [hn, nmAt_no hlt l (.inl q2) hx]; exact ⟨e5, by first | trivial | exact ⟨rfl, rfl⟩ | exact ⟨trivial, trivial⟩⟩) (rest (.inl q2))
  · have : i = L.length := by omega
    subst this
    rw [nmAt_end] at hn
    rw [hn]
    exact ⟨e3, by trivial, ho.1, fun j hj => by have := ho.2 j hj; have := H2.size; omega⟩
end
end Ste
end Go.Proofs.YtjbeembbnkmpeaaDoor

/- The reference's state: known names, whole numbers, text operators. Conditions: sizes. -/
namespace Go.Proofs.YtjbeembbnkmpeaaDoor
namespace Ste
open Sh Mat Opr
set_option linter.unusedVariables false
set_option linter.unusedSimpArgs false
set_option maxRecDepth 8000
set_option maxHeartbeats 8000000
def kn29 : List By := [[113], [81], [99, 109], [119], [74], [106], [77], [100], [114, 105], [105], [103, 115], [103], [71], [114, 103], [82, 71], [107], [75], [84, 99], [84, 119], [84, 122], [84, 76], [84, 102], [84, 114], [84, 115], [], [], [], [], []]
theorem BrNB {a b : ByteArray} {A B : Prop} (h1 : ¬ bl a = bl b → A) (h2 : bl a = bl b → B) : Br (!(a.toList == b.toList)) A B := by
  rw [eqB]
  by_cases h : bl a = bl b
  · rw [decide_eq_true h]
    exact h2 h
  · rw [decide_eq_false h]
    exact h1 h
theorem kn_in : ∀ l ∈ kn29, l ≠ [] → l ∈ known := by decide
theorem kn_of : ∀ l ∈ known, l ∈ kn29 ∧ l ≠ [] := by decide
theorem numV_bnd {o : Ob} {n : Int} (h : numV o = some n) : -1073741824 ≤ n ∧ n ≤ 1073741824 := by
  unfold numV at h
  split at h
  · split at h
    · cases h
      omega
    · cases h
  · split at h
    · split at h
      · rename_i hw
        cases h
        exact Fix.inW_spec.1 hw
      · cases h
    · cases h
theorem nmR_one {L : List Ob} {l : List Int} (hL : L.length = 1) (hf : fitsT [110] L = true) (h : nmR L = some l) : ∃ o n, L = [o] ∧ l = [n] ∧ numV o = some n := by
  match L, hL with
  | [o], _ =>
    have hk : o.1 = 2 ∨ o.1 = 3 := by simpa [fitsT, fitsK] using hf
    unfold nmR at h
    rw [if_pos hk] at h
    cases hn : numV o with
    | none => rw [hn] at h; cases h
    | some n =>
      rw [hn] at h
      cases h
      exact ⟨o, n, rfl, rfl, hn⟩
theorem nmR_two {L : List Ob} {l : List Int} (hL : L.length = 2) (hf : fitsT [78, 110] L = true) (h : nmR L = some l) : ∃ p o n, L = [p, o] ∧ l = [n] ∧ numV o = some n := by
  match L, hL with
  | [p, o], _ =>
    have hk : p.1 = 5 ∧ (o.1 = 2 ∨ o.1 = 3) := by simpa [fitsT, fitsK] using hf
    unfold nmR at h
    rw [if_neg (by omega)] at h
    unfold nmR at h
    rw [if_pos hk.2] at h
    cases hn : numV o with
    | none => rw [hn] at h; cases h
    | some n =>
      rw [hn] at h
      cases h
      exact ⟨p, o, n, rfl, rfl, hn⟩
def text7 : List By := [[84, 99], [84, 119], [84, 122], [84, 76], [84, 115], [84, 102], [84, 114]]
section
variable {w w1 : World} {s n : Slc} {l : List Int} {L K : List Ob} {x : G} {D : List Int} {a d : ByteArray}
attribute [local irreducible] Ld Sh.St Nw Nn LdS LdT LdST StT
theorem r_known (a : ByteArray) (w : World) : C115 a w fun r w1 => r = decide (bl a ∈ known) ∧ Ext (fun _ => False) w w1 := by
  refine T115 _ _ _ ?_
  unfold S115
  refine (Hn.start w).nw (cs := strsB (List.replicate 29 [])) fun w2 H => ?_
  simp only [List.nil_append, add_lit, Nat.zero_add] at H ⊢
  show StL w.heap.size 0 (strsB kn29) w2 _
  refine H.stL (i := 0) (t := 237) (strsB kn29) (strsB (List.replicate 29 [])) [] [] 0 w2 (by rw [List.append_nil]; rfl) rfl (by rw [strsB_len, strsB_len]; rfl) fun w3 H => ?_
  have H : Hn w w3 [(w.heap.size, strsB kn29, 237)] := by simpa using H
  have hb : Blk w3 w.heap.size (strsB kn29).toArray 237 := H.get 0 rfl
  have E := H.ext
  refine ⟨fun m st w4 => ∃ i : Nat, st = (i : Int) ∧ i ≤ 29 ∧ m = 29 - i ∧ w4 = w3 ∧ ∀ j, j < i → kn29.getD j [] = bl a → bl a = [], 29, ⟨0, rfl, by omega, rfl, rfl, fun j hj => by omega⟩, ?_⟩
  rintro m st w4 ⟨i, rfl, hi, rfl, rfl, hall⟩
  unfold S115L1
  simp only [add_lit, Nat.zero_add]
  have hi1 : IntKind.i64.wrap ((i : Int) + 1) = ((i + 1 : Nat) : Int) := by rw [i64_id (by omega)]; rfl
  refine Br.dec (fun q => ⟨by omega, by omega, ?_⟩) fun q => ⟨?_, E⟩
  · have hlt : i < kn29.length := by show i < 29; omega
    have hget : kn29[i]? = some (kn29.getD i []) := by rw [List.getD_eq_getElem?_getD, List.getElem?_eq_getElem hlt]; rfl
    refine Ld.mk (x := ba (kn29.getD i [])) ?_ ?_
    · rw [hb.cell, Int.toNat_natCast, Nat.mul_one]
      simpa using strsB_get hget
    rw [hi1]
    have next : (kn29.getD i [] = bl a → bl a = []) → ∃ m', m' < 29 - i ∧ ∃ k : Nat, (((i + 1 : Nat) : Int)) = (k : Int) ∧ k ≤ 29 ∧ m' = 29 - k ∧ w4 = w4 ∧ ∀ j, j < k → kn29.getD j [] = bl a → bl a = [] := fun hh =>
      ⟨29 - (i + 1), by omega, i + 1, rfl, by omega, rfl, rfl, fun j hj e => by
        by_cases hji : j = i
        · subst hji
          exact hh e
        · exact hall j (by omega) e⟩
    refine BrB (fun q1 => ?_) fun q1 => ?_
    · rw [bl_ba] at q1
      refine BrNB (fun q2 => ⟨?_, E⟩) fun q2 => ?_
      · symm
        rw [decide_eq_true_iff, ← q1]
        exact kn_in _ (List.mem_of_getElem? hget) (by rw [q1]; exact q2)
      · simpa using next fun _ => q2
    · rw [bl_ba] at q1
      simpa using next fun e => absurd e q1
  · symm
    rw [decide_eq_false_iff_not]
    intro hk
    obtain ⟨h1, h2⟩ := kn_of _ hk
    obtain ⟨j, hj⟩ := List.mem_iff_getElem?.1 h1
    have hjl : j < 29 := (List.getElem?_eq_some_iff.1 hj).1
    exact h2 (hall j (by omega) (by rw [List.getD_eq_getElem?_getD, hj]; rfl))
theorem r_whole (n most : Int) (hn : -1073741824 ≤ n ∧ n ≤ 1073741824) (hm : 0 ≤ most ∧ most ≤ 100) (w : World) : C170 n most w fun r w1 => r = decide (0 ≤ n ∧ n ≤ most * 10000 ∧ Int.tmod n 10000 = 0) ∧ w1 = w := by
  refine T170 _ _ _ _ ?_
  unfold S170
  refine Br.dec (fun q => Br.eq (fun q2 => ⟨?_, rfl⟩) fun q2 => ⟨?_, rfl⟩) fun q => ⟨?_, rfl⟩
  · have h0 : 0 ≤ n := q
    rw [tmod_id h0] at q2 ⊢
    rw [tdiv_id h0, i64_id (by omega)]
    rw [decide_eq_decide]
    omega
  · symm
    rw [decide_eq_false_iff_not]
    exact fun h => q2 h.2.2
  · symm
    rw [decide_eq_false_iff_not]
    exact fun h => q h.1
theorem r_text_no (x : G) (hin : bl a ∉ text7) : C117 (tx x) (a, s, d) n w fun t is e w1 => is = false ∧ Ext (fun _ => False) w w1 := by
  refine T117 (tx x) (a, s, d) _ _ _ ?_
  unfold S117 tx
  dsimp only
  refine (Hn.start w).nw fun w2 H => ?_
  refine H.nw fun w3 H => ?_
  refine H.nw fun w4 H => ?_
  simp only [List.cons_append, List.nil_append, add_lit, Nat.zero_add] at H ⊢
  refine H.ld 1 rfl rfl ?_
  iterate 7 refine BrB (fun q => absurd (by rw [q]; decide) hin) fun _ => ?_
  iterate 8 refine H.ld 0 rfl rfl ?_
  iterate 8 (refine H.st 2 rfl (by simp) fun _ H => ?_; simp only [List.nil_append, List.cons_append, List.set_cons_zero, List.set_cons_succ, Nat.zero_add] at H)
  iterate 8 refine H.ld 2 rfl rfl ?_
  exact ⟨by trivial, H.ext⟩
theorem r_text_yes (x : G) (D : List Int) (h : OV w s L) (hn : IV w n l) (hck : chkF (bl a) L (bl d) = 0) (hnm : nmR L = some l) (hin : bl a ∈ text7) : C117 (tx x) (a, s, d) n w fun t is e w1 => Ext (fun _ => False) w w1 ∧ is = true ∧ ((e = 0 ∧ chgF (bl a) L K (er x, D) = .ok (er (upT x t), D)) ∨ (e ≠ 0 ∧ chgF (bl a) L K (er x, D) = .error e)) := by
  refine T117 (tx x) (a, s, d) _ _ _ ?_
  unfold S117 tx
  dsimp only
  refine (Hn.start w).nw fun w2 H => ?_
  refine H.nw fun w3 H => ?_
  refine H.nw fun w4 H => ?_
  simp only [List.cons_append, List.nil_append, add_lit, Nat.zero_add] at H ⊢
  have hn4 := hn.keep H.ext
  obtain ⟨_, hlen, hfit⟩ := chk0 hck
  refine H.ld 1 rfl rfl ?_
  refine BrB (fun q => ?_) fun nTc => ?_
  · have q : bl a = [84, 99] := q
    have ht : takes (bl a) = [110] := by rw [q]; decide +kernel
    rw [ht] at hlen hfit
    obtain ⟨o, n, rfl, rfl, hv⟩ := nmR_one hlen.symm hfit hnm
    refine at0N hn4 (Nat.succ_pos 0) ?_
    iterate 1 (refine H.st 0 rfl (by simp) fun _ H => ?_; simp only [List.nil_append, List.cons_append, List.set_cons_zero, List.set_cons_succ, Nat.zero_add] at H)
    iterate 8 refine H.ld 0 rfl rfl ?_
    iterate 8 (refine H.st 2 rfl (by simp) fun _ H => ?_; simp only [List.nil_append, List.cons_append, List.set_cons_zero, List.set_cons_succ, Nat.zero_add] at H)
    iterate 8 refine H.ld 2 rfl rfl ?_
    refine ⟨H.ext, by trivial, .inl ⟨by trivial, ?_⟩⟩
    rw [q, chg_Tc, bnd_ok _ (show num (ob0 [o]) = .ok n from by show num o = _; unfold num; rw [hv])]
    have e : er (upT x (n, x.2.2.2.2.2.2.2.2.2.2.2.2.2.2.2.2.2.2.2.2.2.2.2.1, x.2.2.2.2.2.2.2.2.2.2.2.2.2.2.2.2.2.2.2.2.2.2.2.2.1, x.2.2.2.2.2.2.2.2.2.2.2.2.2.2.2.2.2.2.2.2.2.2.2.2.2.1, x.2.2.2.2.2.2.2.2.2.2.2.2.2.2.2.2.2.2.2.2.2.2.2.2.2.2.1, x.2.2.2.2.2.2.2.2.2.2.2.2.2.2.2.2.2.2.2.2.2.2.2.2.2.2.2.1, x.2.2.2.2.2.2.2.2.2.2.2.2.2.2.2.2.2.2.2.2.2.2.2.2.2.2.2.2.1, x.2.2.2.2.2.2.2.2.2.2.2.2.2.2.2.2.2.2.2.2.2.2.2.2.2.2.2.2.2)) = up22 (er x) n := by rw [upT_22, er_22]
    exact (congrArg (fun y => Except.ok (y, D)) e).symm
  refine BrB (fun q => ?_) fun nTw => ?_
  · have q : bl a = [84, 119] := q
    have ht : takes (bl a) = [110] := by rw [q]; decide +kernel
    rw [ht] at hlen hfit
    obtain ⟨o, n, rfl, rfl, hv⟩ := nmR_one hlen.symm hfit hnm
    refine at0N hn4 (Nat.succ_pos 0) ?_
    iterate 1 (refine H.st 0 rfl (by simp) fun _ H => ?_; simp only [List.nil_append, List.cons_append, List.set_cons_zero, List.set_cons_succ, Nat.zero_add] at H)
    iterate 8 refine H.ld 0 rfl rfl ?_
    iterate 8 (refine H.st 2 rfl (by simp) fun _ H => ?_; simp only [List.nil_append, List.cons_append, List.set_cons_zero, List.set_cons_succ, Nat.zero_add] at H)
    iterate 8 refine H.ld 2 rfl rfl ?_
    refine ⟨H.ext, by trivial, .inl ⟨by trivial, ?_⟩⟩
    rw [q, chg_Tw, bnd_ok _ (show num (ob0 [o]) = .ok n from by show num o = _; unfold num; rw [hv])]
    have e : er (upT x (x.2.2.2.2.2.2.2.2.2.2.2.2.2.2.2.2.2.2.2.2.2.2.1, n, x.2.2.2.2.2.2.2.2.2.2.2.2.2.2.2.2.2.2.2.2.2.2.2.2.1, x.2.2.2.2.2.2.2.2.2.2.2.2.2.2.2.2.2.2.2.2.2.2.2.2.2.1, x.2.2.2.2.2.2.2.2.2.2.2.2.2.2.2.2.2.2.2.2.2.2.2.2.2.2.1, x.2.2.2.2.2.2.2.2.2.2.2.2.2.2.2.2.2.2.2.2.2.2.2.2.2.2.2.1, x.2.2.2.2.2.2.2.2.2.2.2.2.2.2.2.2.2.2.2.2.2.2.2.2.2.2.2.2.1, x.2.2.2.2.2.2.2.2.2.2.2.2.2.2.2.2.2.2.2.2.2.2.2.2.2.2.2.2.2)) = up23 (er x) n := by rw [upT_23, er_23]
    exact (congrArg (fun y => Except.ok (y, D)) e).symm
  refine BrB (fun q => ?_) fun nTz => ?_
  · have q : bl a = [84, 122] := q
    have ht : takes (bl a) = [110] := by rw [q]; decide +kernel
    rw [ht] at hlen hfit
    obtain ⟨o, n, rfl, rfl, hv⟩ := nmR_one hlen.symm hfit hnm
    refine at0N hn4 (Nat.succ_pos 0) ?_
    iterate 1 (refine H.st 0 rfl (by simp) fun _ H => ?_; simp only [List.nil_append, List.cons_append, List.set_cons_zero, List.set_cons_succ, Nat.zero_add] at H)
    iterate 8 refine H.ld 0 rfl rfl ?_
    iterate 8 (refine H.st 2 rfl (by simp) fun _ H => ?_; simp only [List.nil_append, List.cons_append, List.set_cons_zero, List.set_cons_succ, Nat.zero_add] at H)
    iterate 8 refine H.ld 2 rfl rfl ?_
    refine ⟨H.ext, by trivial, .inl ⟨by trivial, ?_⟩⟩
    rw [q, chg_Tz, bnd_ok _ (show num (ob0 [o]) = .ok n from by show num o = _; unfold num; rw [hv])]
    have e : er (upT x (x.2.2.2.2.2.2.2.2.2.2.2.2.2.2.2.2.2.2.2.2.2.2.1, x.2.2.2.2.2.2.2.2.2.2.2.2.2.2.2.2.2.2.2.2.2.2.2.1, n, x.2.2.2.2.2.2.2.2.2.2.2.2.2.2.2.2.2.2.2.2.2.2.2.2.2.1, x.2.2.2.2.2.2.2.2.2.2.2.2.2.2.2.2.2.2.2.2.2.2.2.2.2.2.1, x.2.2.2.2.2.2.2.2.2.2.2.2.2.2.2.2.2.2.2.2.2.2.2.2.2.2.2.1, x.2.2.2.2.2.2.2.2.2.2.2.2.2.2.2.2.2.2.2.2.2.2.2.2.2.2.2.2.1, x.2.2.2.2.2.2.2.2.2.2.2.2.2.2.2.2.2.2.2.2.2.2.2.2.2.2.2.2.2)) = up24 (er x) n := by rw [upT_24, er_24]
    exact (congrArg (fun y => Except.ok (y, D)) e).symm
  refine BrB (fun q => ?_) fun nTL => ?_
  · have q : bl a = [84, 76] := q
    have ht : takes (bl a) = [110] := by rw [q]; decide +kernel
    rw [ht] at hlen hfit
    obtain ⟨o, n, rfl, rfl, hv⟩ := nmR_one hlen.symm hfit hnm
    refine at0N hn4 (Nat.succ_pos 0) ?_
    iterate 1 (refine H.st 0 rfl (by simp) fun _ H => ?_; simp only [List.nil_append, List.cons_append, List.set_cons_zero, List.set_cons_succ, Nat.zero_add] at H)
    iterate 8 refine H.ld 0 rfl rfl ?_
    iterate 8 (refine H.st 2 rfl (by simp) fun _ H => ?_; simp only [List.nil_append, List.cons_append, List.set_cons_zero, List.set_cons_succ, Nat.zero_add] at H)
    iterate 8 refine H.ld 2 rfl rfl ?_
    refine ⟨H.ext, by trivial, .inl ⟨by trivial, ?_⟩⟩
    rw [q, chg_TL, bnd_ok _ (show num (ob0 [o]) = .ok n from by show num o = _; unfold num; rw [hv])]
    have e : er (upT x (x.2.2.2.2.2.2.2.2.2.2.2.2.2.2.2.2.2.2.2.2.2.2.1, x.2.2.2.2.2.2.2.2.2.2.2.2.2.2.2.2.2.2.2.2.2.2.2.1, x.2.2.2.2.2.2.2.2.2.2.2.2.2.2.2.2.2.2.2.2.2.2.2.2.1, n, x.2.2.2.2.2.2.2.2.2.2.2.2.2.2.2.2.2.2.2.2.2.2.2.2.2.2.1, x.2.2.2.2.2.2.2.2.2.2.2.2.2.2.2.2.2.2.2.2.2.2.2.2.2.2.2.1, x.2.2.2.2.2.2.2.2.2.2.2.2.2.2.2.2.2.2.2.2.2.2.2.2.2.2.2.2.1, x.2.2.2.2.2.2.2.2.2.2.2.2.2.2.2.2.2.2.2.2.2.2.2.2.2.2.2.2.2)) = up25 (er x) n := by rw [upT_25, er_25]
    exact (congrArg (fun y => Except.ok (y, D)) e).symm
  refine BrB (fun q => ?_) fun nTs => ?_
  · have q : bl a = [84, 115] := q
    have ht : takes (bl a) = [110] := by rw [q]; decide +kernel
    rw [ht] at hlen hfit
    obtain ⟨o, n, rfl, rfl, hv⟩ := nmR_one hlen.symm hfit hnm
    refine at0N hn4 (Nat.succ_pos 0) ?_
    iterate 1 (refine H.st 0 rfl (by simp) fun _ H => ?_; simp only [List.nil_append, List.cons_append, List.set_cons_zero, List.set_cons_succ, Nat.zero_add] at H)
    iterate 8 refine H.ld 0 rfl rfl ?_
    iterate 8 (refine H.st 2 rfl (by simp) fun _ H => ?_; simp only [List.nil_append, List.cons_append, List.set_cons_zero, List.set_cons_succ, Nat.zero_add] at H)
    iterate 8 refine H.ld 2 rfl rfl ?_
    refine ⟨H.ext, by trivial, .inl ⟨by trivial, ?_⟩⟩
    rw [q, chg_Ts, bnd_ok _ (show num (ob0 [o]) = .ok n from by show num o = _; unfold num; rw [hv])]
    have e : er (upT x (x.2.2.2.2.2.2.2.2.2.2.2.2.2.2.2.2.2.2.2.2.2.2.1, x.2.2.2.2.2.2.2.2.2.2.2.2.2.2.2.2.2.2.2.2.2.2.2.1, x.2.2.2.2.2.2.2.2.2.2.2.2.2.2.2.2.2.2.2.2.2.2.2.2.1, x.2.2.2.2.2.2.2.2.2.2.2.2.2.2.2.2.2.2.2.2.2.2.2.2.2.1, x.2.2.2.2.2.2.2.2.2.2.2.2.2.2.2.2.2.2.2.2.2.2.2.2.2.2.1, n, x.2.2.2.2.2.2.2.2.2.2.2.2.2.2.2.2.2.2.2.2.2.2.2.2.2.2.2.2.1, x.2.2.2.2.2.2.2.2.2.2.2.2.2.2.2.2.2.2.2.2.2.2.2.2.2.2.2.2.2)) = up27 (er x) n := by rw [upT_27, er_27]
    exact (congrArg (fun y => Except.ok (y, D)) e).symm
  refine BrB (fun q => ?_) fun nTf => ?_
  · have q : bl a = [84, 102] := q
    have ht : takes (bl a) = [78, 110] := by rw [q]; decide +kernel
    rw [ht] at hlen hfit
    obtain ⟨p, o, n, rfl, rfl, hv⟩ := nmR_two hlen.symm hfit hnm
    refine H.ld 1 rfl rfl ?_
    obtain ⟨ad, ha, c0, c1, c2, c3, c4, c5⟩ := (h.keep H.ext).get (i := 0) rfl
    have hsl := h.1
    rw [ha]
    refine ⟨by omega, by rw [hsl]; simp, Nn.of ?_⟩
    refine Ld.mk c3 ?_
    refine H.st' 0 rfl (by simp) fun w5 H e5 => ?_
    simp only [List.set_cons_zero, List.set_cons_succ] at H
    refine at0N (hn.keep H.ext) (Nat.succ_pos 0) ?_
    iterate 1 (refine H.st 0 rfl (by simp) fun _ H => ?_; simp only [List.nil_append, List.cons_append, List.set_cons_zero, List.set_cons_succ, Nat.zero_add] at H)
    iterate 8 refine H.ld 0 rfl rfl ?_
    iterate 8 (refine H.st 2 rfl (by simp) fun _ H => ?_; simp only [List.nil_append, List.cons_append, List.set_cons_zero, List.set_cons_succ, Nat.zero_add] at H)
    iterate 8 refine H.ld 2 rfl rfl ?_
    refine ⟨H.ext, by trivial, .inl ⟨by trivial, ?_⟩⟩
    rw [q, chg_Tf, bnd_ok _ (show num (ob1 [p, o]) = .ok n from by show num o = _; unfold num; rw [hv])]
    have e : er (upT x (x.2.2.2.2.2.2.2.2.2.2.2.2.2.2.2.2.2.2.2.2.2.2.1, x.2.2.2.2.2.2.2.2.2.2.2.2.2.2.2.2.2.2.2.2.2.2.2.1, x.2.2.2.2.2.2.2.2.2.2.2.2.2.2.2.2.2.2.2.2.2.2.2.2.1, x.2.2.2.2.2.2.2.2.2.2.2.2.2.2.2.2.2.2.2.2.2.2.2.2.2.1, n, x.2.2.2.2.2.2.2.2.2.2.2.2.2.2.2.2.2.2.2.2.2.2.2.2.2.2.2.1, p.2.2.2.1, x.2.2.2.2.2.2.2.2.2.2.2.2.2.2.2.2.2.2.2.2.2.2.2.2.2.2.2.2.2)) = up26 (up28 (er x) p.2.2.2.1) n := by rw [upT_Tf, er_26, er_28]
    exact (congrArg (fun y => Except.ok (y, D)) e).symm
  refine BrB (fun q => ?_) fun nTr => ?_
  · have q : bl a = [84, 114] := q
    have ht : takes (bl a) = [110] := by rw [q]; decide +kernel
    rw [ht] at hlen hfit
    obtain ⟨o, n, rfl, rfl, hv⟩ := nmR_one hlen.symm hfit hnm
    have hnum : num (ob0 [o]) = .ok n := by show num o = _; unfold num; rw [hv]
    refine at0N hn4 (Nat.succ_pos 0) ?_
    refine (r_whole n 7 (numV_bnd hv) (by decide) _).mono ?_
    rintro r w5 ⟨rfl, rfl⟩
    by_cases hw : 0 ≤ n ∧ n ≤ 7 * 10000 ∧ Int.tmod n 10000 = 0
    · rw [decide_eq_true hw]
      refine Br.f rfl ?_
      refine at0N hn4 (Nat.succ_pos 0) ?_
      iterate 1 (refine H.st 0 rfl (by simp) fun _ H => ?_; simp only [List.nil_append, List.cons_append, List.set_cons_zero, List.set_cons_succ, Nat.zero_add] at H)
      iterate 8 refine H.ld 0 rfl rfl ?_
      iterate 8 (refine H.st 2 rfl (by simp) fun _ H => ?_; simp only [List.nil_append, List.cons_append, List.set_cons_zero, List.set_cons_succ, Nat.zero_add] at H)
      iterate 8 refine H.ld 2 rfl rfl ?_
      refine ⟨H.ext, by trivial, .inl ⟨by trivial, ?_⟩⟩
      rw [q, chg_Tr, bnd_ok _ (show whl (ob0 [o]) 7 = .ok (Int.tdiv n 10000) from by unfold whl; rw [hnum]; exact if_pos hw)]
      have hi : IntKind.i64.wrap (Int.tdiv n 10000) = Int.tdiv n 10000 := by rw [tdiv_id hw.1, i64_id (by omega)]
      have e : er (upT x (x.2.2.2.2.2.2.2.2.2.2.2.2.2.2.2.2.2.2.2.2.2.2.1, x.2.2.2.2.2.2.2.2.2.2.2.2.2.2.2.2.2.2.2.2.2.2.2.1, x.2.2.2.2.2.2.2.2.2.2.2.2.2.2.2.2.2.2.2.2.2.2.2.2.1, x.2.2.2.2.2.2.2.2.2.2.2.2.2.2.2.2.2.2.2.2.2.2.2.2.2.1, x.2.2.2.2.2.2.2.2.2.2.2.2.2.2.2.2.2.2.2.2.2.2.2.2.2.2.1, x.2.2.2.2.2.2.2.2.2.2.2.2.2.2.2.2.2.2.2.2.2.2.2.2.2.2.2.1, x.2.2.2.2.2.2.2.2.2.2.2.2.2.2.2.2.2.2.2.2.2.2.2.2.2.2.2.2.1, (IntKind.i64.wrap (Int.tdiv n 10000)))) = up29 (er x) (Int.tdiv n 10000) := by rw [upT_29, er_29, hi]
      exact (congrArg (fun y => Except.ok (y, D)) e).symm
    · rw [decide_eq_false hw]
      refine Br.t rfl ?_
      iterate 8 refine H.ld 0 rfl rfl ?_
      iterate 8 (refine H.st 2 rfl (by simp) fun _ H => ?_; simp only [List.nil_append, List.cons_append, List.set_cons_zero, List.set_cons_succ, Nat.zero_add] at H)
      iterate 8 refine H.ld 2 rfl rfl ?_
      refine ⟨H.ext, by trivial, .inr ⟨by decide, ?_⟩⟩
      rw [q, chg_Tr, bnd_er _ (show whl (ob0 [o]) 7 = .error 2 from by unfold whl; rw [hnum]; exact if_neg hw)]
  refine absurd hin ?_
  unfold text7
  simp only [List.mem_cons, List.not_mem_nil, or_false, not_or]
  exact ⟨nTc, nTw, nTz, nTL, nTs, nTf, nTr⟩
end
end Ste
end Go.Proofs.YtjbeembbnkmpeaaDoor


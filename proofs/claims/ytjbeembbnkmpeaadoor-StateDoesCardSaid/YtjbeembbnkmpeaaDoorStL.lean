/- What the layer's sample shows. Condition: the table of spaces is laid. -/
import Derived.Test.YtjbeembbnkmpeaaDoorStK
import Derived.Test.YtjbeembbnkmpeaaDoorFnLw
namespace Go.Proofs.YtjbeembbnkmpeaaDoor
namespace Ste
open Sh Mat Opr
set_option linter.unusedVariables false
set_option linter.unusedSimpArgs false
set_option maxRecDepth 8000
set_option maxHeartbeats 8000000
attribute [local irreducible] Ld Sh.St Nw Nn LdS LdT LdST StT
abbrev eB : ByteArray := ⟨#[]⟩
theorem OVnil (w : World) : OV w nilS [] := ⟨rfl, rfl, fun j v h => by cases h⟩
section
variable {w w1 : World} {s sv : Slc} {b : Nat} {x : G} {D : List Int} {S : List P} {a d : ByteArray} {nm : By} {L K : List Ob} {M M' : Mc} {e : Int}
theorem c_step (hs : AS w) (hb1 : b ≠ 1) (hm : MV w b x D sv S) (hM : mc x D S = M) (h : OV w s L) (hl : L.length ≤ 9223372036854775807) (hK : OV w (ob0 L).2.2.2.2.2 K) (hKl : K.length ≤ 9223372036854775807) (hd : doF M ⟨bl a, bl d, L, K⟩ = (e, M')) :
    C53 (some ⟨b, 0, none⟩) (a, s, d) w fun r w1 => r = e ∧ ∃ x' D' sv' S', mc x' D' S' = M' ∧ MV w1 b x' D' sv' S' ∧ AS w1 ∧ Ext (· = b) w w1 := by
  refine (c_do hs hb1 hm h hl hK hKl).mono ?_
  rintro r w1 ⟨x', D', sv', S', hf, hm', hE⟩
  rw [hM, hd] at hf
  injection hf with h1 h2
  exact ⟨h1.symm, x', D', sv', S', h2.symm, hm', hs.keepF hE fun e => hb1 e.symm, hE⟩
theorem c_donil (a : ByteArray) (s : Slc) (d : ByteArray) (w : World) : C53 none (a, s, d) w fun r w1 => r = 1 ∧ Ext (fun _ => False) w w1 := by
  refine T53 _ (a, s, d) _ _ ?_
  unfold S53
  refine (Hn.start w).nw fun w2 H => ?_
  refine H.nw fun w3 H => ?_
  simp only [List.cons_append, List.nil_append] at H
  show Sh.St _ _ _ _
  refine H.st 1 rfl (by simp) fun w4 H => ?_
  simp only [List.set_cons_zero, List.set_cons_succ] at H
  exact H.ld 1 rfl rfl ⟨rfl, H.ext⟩
theorem c_none (a : ByteArray) (w : World) : C56 a w fun r w1 => r = (a, nilS, eB) ∧ Ext (fun _ => False) w w1 := by
  refine T56 _ _ _ ?_
  unfold S56
  refine (Hn.start w).nw fun w2 H => ?_
  simp only [List.nil_append, add_lit, Nat.zero_add] at H ⊢
  iterate 3 (refine H.st 0 rfl (by simp) fun _ H => ?_; simp only [List.set_cons_zero, List.set_cons_succ] at H)
  iterate 3 refine H.ld 0 rfl rfl ?_
  exact ⟨rfl, H.ext⟩
abbrev pl : Mx := (10000, 0, 0, 10000, 0, 0)
theorem c_plain (w : World) : C108 w fun r w1 => r = pl ∧ Ext (fun _ => False) w w1 := by
  refine T108 _ _ ?_
  unfold S108
  refine (Hn.start w).nw fun w2 H => ?_
  simp only [List.nil_append, add_lit, Nat.zero_add] at H ⊢
  iterate 6 (refine H.st 0 rfl (by simp) fun _ H => ?_; simp only [List.set_cons_zero, List.set_cons_succ] at H)
  iterate 6 refine H.ld 0 rfl rfl ?_
  exact ⟨rfl, H.ext⟩
abbrev iO (n : Int) : Ob := (2, n, 0, eB, nilS, nilS)
theorem c_int (n : Int) (w : World) : C162 n w fun r w1 => r = iO n ∧ Ext (fun _ => False) w w1 := by
  refine T162 _ _ _ ?_
  unfold S162
  refine (Hn.start w).nw fun w2 H => ?_
  simp only [List.nil_append, add_lit, Nat.zero_add] at H ⊢
  repeat' (first | (refine H.st 0 rfl (by simp) fun _ H => ?_; simp only [List.set_cons_zero, List.set_cons_succ] at H) | refine H.ld 0 rfl rfl ?_)
  exact ⟨rfl, H.ext⟩
theorem c_op (a : ByteArray) (n : Int) (w : World) : C109 a n w fun r w1 => ∃ s, r = (a, s, eB) ∧ OV w1 s [iO n] ∧ Ext (fun _ => False) w w1 := by
  refine T109 _ _ _ _ ?_
  unfold S109
  refine (Hn.start w).nw fun w2 H => ?_
  simp only [List.nil_append, add_lit, Nat.zero_add] at H ⊢
  refine (c_int n _).mono ?_
  rintro r w3 ⟨rfl, e3⟩
  have H := H.keep e3
  refine H.nw fun w4 H => ?_
  simp only [List.cons_append, List.nil_append] at H
  iterate 3 (refine H.st 0 rfl (by simp) fun _ H => ?_; simp only [List.set_cons_zero, List.set_cons_succ] at H)
  iterate 3 refine H.ld 0 rfl rfl ?_
  exact ⟨_, rfl, OV.of (L := [iO n]) (H.get 1 rfl), H.ext⟩
/-! ### What operators do to the sample's machine -/
def g0 : G := er (firstG pl)
def m0 : Mc := ⟨(g0, []), []⟩
def m1 : Mc := ⟨(g0, []), [(g0, [])]⟩
def m2 : Mc := ⟨(up6 g0 20000, []), [(g0, [])]⟩
theorem d_q : doF m0 ⟨bl ⟨#[113]⟩, bl eB, [], []⟩ = (0, m1) := by kernel_rfl
theorem d_w : doF m1 ⟨bl ⟨#[119]⟩, bl eB, [iO 2], []⟩ = (0, m2) := by kernel_rfl
theorem d_Q : doF m2 ⟨bl ⟨#[81]⟩, bl eB, [], []⟩ = (0, m0) := by kernel_rfl
theorem d_Q2 : doF m0 ⟨bl ⟨#[81]⟩, bl eB, [], []⟩ = (29, m0) := by kernel_rfl
theorem d_J : doF m0 ⟨bl ⟨#[74]⟩, bl eB, [iO 3], []⟩ = (2, m0) := by kernel_rfl
theorem d_l : doF m0 ⟨bl ⟨#[108]⟩, bl eB, [iO 1], []⟩ = (8, m0) := by kernel_rfl
theorem d_rg : doF m0 ⟨bl ⟨#[114, 103]⟩, bl eB, [iO 1], []⟩ = (28, m0) := by kernel_rfl
end
end Ste
end Go.Proofs.YtjbeembbnkmpeaaDoor

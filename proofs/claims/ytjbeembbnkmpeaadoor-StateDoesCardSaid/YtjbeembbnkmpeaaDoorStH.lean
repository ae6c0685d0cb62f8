/- The machine in memory: its copies, First, New, State, Depth, the operators it knows. Conditions: sizes. -/
import Derived.Test.YtjbeembbnkmpeaaDoorStG
namespace Go.Proofs.YtjbeembbnkmpeaaDoor
namespace Ste
open Sh Mat Opr
set_option linter.unusedVariables false
set_option linter.unusedSimpArgs false
set_option maxRecDepth 8000
set_option maxHeartbeats 8000000
section
variable {w0 w w' w1 w7 : World} {s sv sv' : Slc} {l : List Int} {b i : Nat} {x x' y : G} {D : List Int} {t : TypeId} {S : List P} {M : List (Nat × List Value × TypeId)} {zs : List Value}
/-- A state of nothing. -/
def zeroG : G := (0, 0, 0, 0, 0, 0, 0, 0, 0, 0, nilS, 0, 0, 0, 0, 0, 0, 0, 0, 0, 0, 0, 0, 0, 0, 0, 0, 0, ⟨#[]⟩, 0)
theorem ldG {K : G → Prop} (h : Blk w b (Sig.cells LG x).toArray t) (k : K x) : LdT w ⟨b, 0, none⟩ 0 LG K := LdT.blk (pre := []) (post := []) (by rw [List.append_nil]; exact h) rfl k
theorem stG {K : World → Prop} (h : Hn w0 w M) (hi : M[i]? = some (b, zs, t)) (hz : zs.length = 30) (k : ∀ w2, Hn w0 w2 (M.set i (b, Sig.cells LG x, t)) → K w2) : StT ⟨b, 0, none⟩ 0 LG x w K :=
  h.stT (pre := []) (post := []) (by rw [List.append_nil]; exact hi) rfl hz fun w2 h2 => k w2 (by rw [List.append_nil] at h2; exact h2)
theorem ldM {K : G → Prop} (h : Blk w b (Sig.cells LG x ++ [Slc.v sv]).toArray t) (k : K x) : LdT w ⟨b, 0, none⟩ 0 LG K := LdT.blk (pre := []) (post := [Slc.v sv]) h rfl k
theorem ldSM {U : World → Prop} {K : G → Prop} (h : ∀ w, U w → Blk w b (Sig.cells LG x ++ [Slc.v sv]).toArray t) (k : K x) : LdST U ⟨b, 0, none⟩ 0 LG K := LdST.blk (pre := []) (post := [Slc.v sv]) h rfl k
theorem stM {K : World → Prop} (h : Blk w b (Sig.cells LG x ++ [Slc.v sv]).toArray t) (k : ∀ w2, Blk w2 b (Sig.cells LG y ++ [Slc.v sv]).toArray t → Ext (· = b) w w2 → K w2) : StT ⟨b, 0, none⟩ 0 LG y w K :=
  StT.blk (pre := []) (zs := Sig.cells LG x) (post := [Slc.v sv]) h rfl rfl k
theorem setSv (x : G) (a c : Value) : (Sig.cells LG x ++ [a]).set 30 c = Sig.cells LG x ++ [c] := rfl
theorem ltM (x : G) (a : Value) : 30 < (Sig.cells LG x ++ [a]).length := by rw [List.length_append, lenG]; exact Nat.lt_succ_self 30
theorem atM (x : G) (a : Value) : (Sig.cells LG x ++ [a])[30]? = some a := rfl
attribute [local irreducible] Ld Sh.St Nw Nn Lt LdS LdT LdST StT
theorem ldSv {K : Slc → Prop} (h : Blk w b (Sig.cells LG x ++ [Slc.v sv]).toArray t) (k : K sv) : Ld w ⟨b, 30, none⟩ Slc.v K := by
  refine Ld.mk ?_ k
  rw [h.cell]
  exact atM x _
theorem ldSSv {U : World → Prop} {K : Slc → Prop} (h : ∀ w, U w → Blk w b (Sig.cells LG x ++ [Slc.v sv]).toArray t) (k : K sv) : LdS U ⟨b, 30, none⟩ Slc.v K := by
  unfold LdS
  exact ⟨sv, fun w hw => by rw [(h w hw).cell]; exact atM x _, k⟩
theorem stSv {c : Value} {K : World → Prop} (h : Blk w b (Sig.cells LG x ++ [Slc.v sv]).toArray t) (k : ∀ w2, Blk w2 b (Sig.cells LG x ++ [c]).toArray t → Ext (· = b) w w2 → K w2) : Sh.St w ⟨b, 30, none⟩ c K :=
  stB h (ltM x _) fun w2 h2 e2 => k w2 (by rw [setSv] at h2; exact h2) e2
theorem c_copied (h : IV w (dsh x) D) (hl : D.length ≤ 1000000) : C110 x w fun r w1 => ∃ t, r = up10 x t ∧ IO w w1 t D ∧ Ext (fun _ => False) w w1 := by
  refine T110 _ _ _ ?_
  unfold S110
  refine (Hn.start w).nw fun w2 H => ?_
  have h12 := H.lt 0 rfl
  refine H.nw fun w3 H => ?_
  simp only [List.cons_append, List.nil_append, add_lit, Nat.zero_add] at H ⊢
  have h13 := H.lt 0 rfl
  have h23 := H.lt 1 rfl
  refine H.ld 0 rfl (at10 x) ?_
  refine (c_clone (l := D) (h.keep H.ext) hl).mono ?_
  rintro r w4 ⟨ho, e4⟩
  have H := H.keep e4
  refine stB (H.get 0 rfl) (ltG x (by decide)) fun w5 g5 e5 => ?_
  rw [show (Sig.cells LiA29 x).set 10 (Slc.v r) = Sig.cells LG (up10 x r) from set10 x r] at g5
  refine ldG g5 ?_
  refine StT.blk (pre := []) (post := []) (zs := Sig.cells LG zeroG) (by rw [List.append_nil]; exact e5.blk (H.get 1 rfl) (by omega)) rfl rfl fun w6 g6 e6 => ?_
  rw [List.append_nil] at g6
  refine ldG (x := up10 x r) g6 ?_
  refine ⟨r, rfl, ⟨(ho.1.keep e5 fun j hj => by have := ho.2 j hj; omega).keep e6 fun j hj => by have := ho.2 j hj; omega, fun j hj => by have := ho.2 j hj; omega⟩, ?_⟩
  exact Ext.new (Ext.new H.ext e5 fun j hj => by omega) e6 fun j hj => by omega
/-- The first state. -/
def firstG (m : Mx) : G := (m.1, m.2.1, m.2.2.1, m.2.2.2.1, m.2.2.2.2.1, m.2.2.2.2.2, 10000, 0, 0, 100000, nilS, 0, 0, 0, 0, 0, 0, 0, 0, 0, 0, 0, 0, 0, 1000000, 0, 0, 0, ⟨#[]⟩, 0)
theorem dsh_first (m : Mx) : dsh (firstG m) = nilS := rfl
theorem c_first (m : Mx) (w : World) : C13 m w fun r w1 => r = firstG m ∧ Ext (fun _ => False) w w1 := by
  refine T13 _ _ _ ?_
  unfold S13
  refine (Hn.start w).nw fun w2 H => ?_
  refine H.nw fun w3 H => ?_
  simp only [List.cons_append, List.nil_append, add_lit, Nat.zero_add] at H ⊢
  iterate 6 refine H.ld 0 rfl rfl ?_
  refine stG H (i := 1) rfl rfl fun w6 H6 => ?_
  simp only [List.set_cons_zero, List.set_cons_succ] at H6
  exact ldG (H6.get 1 rfl) ⟨rfl, H6.ext⟩
theorem MV.new {m : Mx} (h : Blk w b (Sig.cells LG (firstG m) ++ [Slc.v nilS]).toArray 175) : MV w b (firstG m) [] nilS [] := by
  refine ⟨h, ?_, by decide, SVd.nil w, fun p hp => (List.not_mem_nil hp).elim, ?_, by decide⟩
  · rw [dsh_first]
    exact IV.nil w
  · rintro j (⟨a, ha, _⟩ | ⟨a, ha, _⟩ | ⟨p, hp, _⟩)
    · rw [dsh_first] at ha
      cases ha
    · cases ha
    · exact (List.not_mem_nil hp).elim
theorem c_new (m : Mx) (w : World) : C48 m w fun r w1 => Ext (fun _ => False) w w1 ∧ if Mat.okM m = true then ∃ b, r = some ⟨b, 0, none⟩ ∧ w.heap.size ≤ b ∧ MV w1 b (firstG m) [] nilS [] else r = none := by
  refine T48 _ _ _ ?_
  unfold S48
  refine (Hn.start w).nw fun w2 H => ?_
  simp only [List.cons_append, List.nil_append, add_lit, Nat.zero_add] at H ⊢
  iterate 6 refine H.ld 0 rfl rfl ?_
  refine (c_check m _).mono ?_
  rintro e w3 ⟨rfl, e3⟩
  have H := H.keep e3
  by_cases hm : Mat.okM m = true
  · rw [if_pos hm]
    refine Br.ne (fun q => absurd rfl q) fun _ => ?_
    iterate 6 refine H.ld 0 rfl rfl ?_
    refine (c_first m _).mono ?_
    rintro r w4 ⟨rfl, e4⟩
    have H := H.keep e4
    have h4 := H.size
    refine (H.nw (cs := Sig.cells LG (firstG m) ++ [Slc.v nilS])) fun w5 H5 => ?_
    exact ⟨H5.ext, by first
      | exact ⟨_, rfl, h4, MV.new (H5.get 1 rfl)⟩
      | (rw [if_pos hm]; exact ⟨_, rfl, h4, MV.new (H5.get 1 rfl)⟩)⟩
  · rw [if_neg hm]
    exact Br.ne (fun _ => ⟨H.ext, by rw [if_neg hm]; trivial⟩) fun q => by cases q
theorem c_state (h : MV w b x D sv S) : C52 (some ⟨b, 0, none⟩) w fun r w1 => ∃ t, r = up10 x t ∧ IO w w1 t D ∧ Ext (fun _ => False) w w1 := by
  refine T52 _ _ _ ?_
  unfold S52
  refine (Hn.start w).nw fun w2 H => ?_
  simp only [List.nil_append] at H
  have e2 := H.ext
  have h12 := H.lt 0 rfl
  show Nn _ _
  refine Nn.of (ldM (h.keep e2).blk ?_)
  refine (c_copied (h.keep e2).dash (by have := h.few; omega)).mono ?_
  rintro r w3 ⟨t, rfl, ho, e3⟩
  have H := H.keep e3
  refine StT.blk (pre := []) (post := []) (zs := Sig.cells LG zeroG) (by rw [List.append_nil]; exact H.get 0 rfl) rfl rfl fun w6 g6 e6 => ?_
  rw [List.append_nil] at g6
  refine ldG (x := up10 x t) g6 ⟨t, rfl, ⟨ho.1.keep e6 fun j hj => by have := ho.2 j hj; omega, fun j hj => by have := ho.2 j hj; omega⟩, Ext.new H.ext e6 fun j hj => by omega⟩
theorem c_state0 (w : World) : C52 none w fun r w1 => r = zeroG ∧ Ext (fun _ => False) w w1 := by
  refine T52 _ _ _ ?_
  unfold S52
  refine (Hn.start w).nw fun w2 H => ?_
  simp only [List.nil_append] at H
  show StT _ _ _ _ _ _
  refine stG H (i := 0) rfl rfl fun w6 H6 => ?_
  simp only [List.set_cons_zero, List.set_cons_succ] at H6
  exact ldG (H6.get 0 rfl) ⟨rfl, H6.ext⟩
theorem c_depth (h : MV w b x D sv S) : C55 (some ⟨b, 0, none⟩) w fun r w1 => r = (S.length : Int) ∧ w1 = w := by
  refine T55 _ _ _ ?_
  unfold S55
  show Nn _ _
  refine Nn.of ?_
  simp only [add_lit, Nat.zero_add]
  refine ldSv h.blk ⟨?_, by trivial⟩
  rw [h.sav.len, List.length_map]
theorem c_depth0 (w : World) : C55 none w fun r w1 => r = 0 ∧ w1 = w := by
  refine T55 _ _ _ ?_
  unfold S55
  exact ⟨rfl, rfl⟩
theorem c_known (a : ByteArray) (w : World) : C111 a w fun r w1 => r = decide (bl a ∈ known) ∧ Ext (fun _ => False) w w1 := by
  refine T111 _ _ _ ?_
  unfold S111
  refine (Hn.start w).nw (cs := strsB known) fun w2 H => ?_
  refine (c_contains (SL.blk (H.get 0 rfl) rfl) (by decide) a).mono ?_
  rintro r w3 ⟨rfl, rfl⟩
  exact ⟨rfl, H.ext⟩
end
end Ste
end Go.Proofs.YtjbeembbnkmpeaaDoor

/- Shown strings: a text. Conditions: sizes, the laid tables. -/
import Derived.Test.YtcblpehnkogfdaaGreatDoorQYQDoes5
import Derived.Test.YtcblpehnkogfdaaGreatDoorQYQDoes2
import Derived.Lib.Fields
import Derived.Test.YtcblpehnkogfdaaGreatDoorQYQDoes3
import Derived.Test.YtcblpehnkogfdaaGreatDoorQYQDoes4
import Derived.Laws.Strings
import Derived.Laws.RangeString
set_option linter.unusedVariables false
set_option linter.unusedSimpArgs false
namespace Go.Proofs.YtcblpehnkogfdaaGreatDoor
namespace Sw
open Sh Mat Fix Fo
set_option maxRecDepth 4000
set_option maxHeartbeats 4000000
attribute [local irreducible] Ld St Nw Nn Lt LdS
def glc (x : GlT) : List Value := Sig.cells LiA69 x
theorem glc_len (x : GlT) : (glc x).length = 9 := rfl
theorem glc_one (x : GlT) : ∀ v ∈ glc x,v.oneCell' = true := fun v hv=> by
 simp only [glc,Sig.cells,List.mem_cons,List.not_mem_nil,or_false] at hv
 rcases hv with rfl | rfl | rfl | rfl | rfl | rfl | rfl | rfl | rfl <;> rfl
theorem elGl : El Tryz.prog 49 70 9 88 (.agg (glc (0,⟨#[]⟩,0,0,0,0,0,⟨#[]⟩,0)).toArray) := ⟨by kernel_rfl,by kernel_rfl,by kernel_rfl,by kernel_rfl,rfl⟩
theorem pairs_in : ∀ (l : By),∀ c ∈ pairs l,0 <= c /\ c <= 65535
 | [],c,h=> by cases h
 | [a],c,h=> by cases h
 | a :: b :: r,c,h=> by
  rcases List.mem_cons.1 h with rfl | h
  ·have := a.toNat_lt
   have := b.toNat_lt
   omega
  ·exact pairs_in r c h
theorem codes_in (wide : Bool) (s : ByteArray) : ∀ c ∈ (codesF wide s).1,0 <= c /\ c <= 65535 := fun c h=> by
 unfold codesF at h
 split at h
 ·obtain ⟨b,_,rfl⟩ := List.mem_map.1 h
  have := b.toNat_lt
  omega
 ·split at h
  ·cases h
  ·exact pairs_in _ c h
def hac (g : GT) (x : FT) : List Value := [.int .i64 (g.1),.int .i64 (g.2.1),.int .i64 (g.2.2.1),.int .i64 (g.2.2.2.1),.int .i64 (g.2.2.2.2.1),.int .i64 (g.2.2.2.2.2.1),.int .i64 (g.2.2.2.2.2.2.1),.int .i64 (g.2.2.2.2.2.2.2.1),.int .i64 (g.2.2.2.2.2.2.2.2.1),.int .i64 (g.2.2.2.2.2.2.2.2.2.1),Slc.v (g.2.2.2.2.2.2.2.2.2.2.1),.int .i64 (g.2.2.2.2.2.2.2.2.2.2.2.1),.int .i64 (g.2.2.2.2.2.2.2.2.2.2.2.2.1),.int .i64 (g.2.2.2.2.2.2.2.2.2.2.2.2.2.1),.int .i64 (g.2.2.2.2.2.2.2.2.2.2.2.2.2.2.1),.int .i64 (g.2.2.2.2.2.2.2.2.2.2.2.2.2.2.2.1),.int .i64 (g.2.2.2.2.2.2.2.2.2.2.2.2.2.2.2.2.1),.int .i64 (g.2.2.2.2.2.2.2.2.2.2.2.2.2.2.2.2.2.1),.int .i64 (g.2.2.2.2.2.2.2.2.2.2.2.2.2.2.2.2.2.2.1),.int .i64 (g.2.2.2.2.2.2.2.2.2.2.2.2.2.2.2.2.2.2.2.1),.int .i64 (g.2.2.2.2.2.2.2.2.2.2.2.2.2.2.2.2.2.2.2.2.1),.int .i64 (g.2.2.2.2.2.2.2.2.2.2.2.2.2.2.2.2.2.2.2.2.2.1),.int .i64 (g.2.2.2.2.2.2.2.2.2.2.2.2.2.2.2.2.2.2.2.2.2.2.1),.int .i64 (g.2.2.2.2.2.2.2.2.2.2.2.2.2.2.2.2.2.2.2.2.2.2.2.1),.int .i64 (g.2.2.2.2.2.2.2.2.2.2.2.2.2.2.2.2.2.2.2.2.2.2.2.2.1),.int .i64 (g.2.2.2.2.2.2.2.2.2.2.2.2.2.2.2.2.2.2.2.2.2.2.2.2.2.1),.int .i64 (g.2.2.2.2.2.2.2.2.2.2.2.2.2.2.2.2.2.2.2.2.2.2.2.2.2.2.1),.int .i64 (g.2.2.2.2.2.2.2.2.2.2.2.2.2.2.2.2.2.2.2.2.2.2.2.2.2.2.2.1),.string (g.2.2.2.2.2.2.2.2.2.2.2.2.2.2.2.2.2.2.2.2.2.2.2.2.2.2.2.2.1),.int .i64 (g.2.2.2.2.2.2.2.2.2.2.2.2.2.2.2.2.2.2.2.2.2.2.2.2.2.2.2.2.2),.string (x.1),.bool (x.2.1),.int .i64 (x.2.2.1),Slc.v (x.2.2.2.1),.int .i64 (x.2.2.2.2.1),Slc.v (x.2.2.2.2.2.1),Slc.v (x.2.2.2.2.2.2)]
section
variable {w : World} {g : GT} {x : FT} {f : Font}
theorem c_text (hT : TB w) (h : FoV w x f) (m : Mx) {s : ByteArray} (hs : s.size <= 1048576) :
  C55 (hand g x) m s w (fun r m2 w1=> askE g m f s = 0 /\ Ext (fun _=> False) w w1 /\ ∃ L,showP g f (codesF f.wide s).1 m = some (L,m2) /\ VRow w1 r 9 (L.flatMap glc) /\ ∀ j,r.own j -> w.heap.size <= j)
   fun v w1=> ∃ e,v = gup e /\ e ≠ 0 /\ stringF g m f s = ([],noM,e) /\ Ext (fun _=> False) w w1 := by
 refine T55 _ _ _ _ _ _ ?_
 unfold S55
 refine Nw.of ?_
 have H := ha_blk w g x
 generalize w.alloc (.cells (Sig.cells LiA83 (hand g x)).toArray 84) = wa at *
 refine H.nw fun w5 H=> H.nw fun w6 H=> ?_
 have ask : ∀ e,askE g m f s = e -> e ≠ 0 -> stringF g m f s = ([],noM,e) := fun e he h0=> by
  unfold stringF
  rw [he,if_pos h0]
 refine H.ldT (i := 0) (pre := []) (post := [.string (x.1),.bool (x.2.1),.int .i64 (x.2.2.1),Slc.v (x.2.2.2.1),.int .i64 (x.2.2.2.2.1),Slc.v (x.2.2.2.2.2.1),Slc.v (x.2.2.2.2.2.2)]) (ts := LiA30) (x := g) rfl rfl ?_
 refine (c_use g _).mono (fun w8 h8=> ?_) fun v w8 h8=> ⟨2,h8.1,by decide,ask 2 (by unfold askE; rw [if_pos (.inl h8.2.1)]) (by decide),H.ext.tr h8.2.2⟩
 obtain ⟨hg,e8⟩ := h8
 have H := (H.keep e8).drew
 have cl : ∀ {j : Nat} {v : Value},(mrow m)[j]? = some v -> w8.drew.cell? ⟨wa.heap.size,j,none⟩ = some v := fun {j v} hj=> by
  rw [(H.get 1 rfl).cell,List.getElem?_toArray]
  exact hj
 refine ⟨Ext (fun _=> False) w8.drew,Ext.refl _ _,?_⟩
 refine ldS_ext (x := m.1) (cl rfl) (ldS_ext (x := m.2.1) (cl rfl) (ldS_ext (x := m.2.2.1) (cl rfl) (ldS_ext (x := m.2.2.2.1) (cl rfl) (ldS_ext (x := m.2.2.2.2.1) (cl rfl) (ldS_ext (x := m.2.2.2.2.2) (cl rfl) ?_)))))
 refine ldS_ext (x := m.1) (cl rfl) (ldS_ext (x := m.2.1) (cl rfl) (ldS_ext (x := m.2.2.1) (cl rfl) (ldS_ext (x := m.2.2.2.1) (cl rfl) (ldS_ext (x := m.2.2.2.2.1) (cl rfl) (ldS_ext (x := m.2.2.2.2.2) (cl rfl) ?_)))))
 refine (Mat.c_check m _).mono ?_
 rintro r w23 ⟨rfl,e23⟩
 refine ⟨e23,(c_mustM m _ _).mono (fun r w25 h25=> ?_) fun v w25 h25=> ?_⟩
 case refine_2=>
  obtain ⟨rfl,h0,e25⟩ := h25
  have hm : Mat.okM m = false := by
   cases hm : Mat.okM m with
   | false=> rfl
   | true=> rw [hm] at h0; exact absurd rfl h0
  exact ⟨2,by rw [hm]; rfl,by decide,ask 2 (by unfold askE; rw [if_pos (.inr hm)]) (by decide),(H.ext.tr e23).tr e25⟩
 obtain ⟨rfl,h0,e25⟩ := h25
 have hm : Mat.okM r = true := by
  cases hm : Mat.okM r with
  | true=> rfl
  | false=> rw [hm] at h0; cases h0
 have H := ((H.keep e23).keep e25).drew
 have E0 := H.ext
 refine ⟨Ext (fun _=> False) w25.drew,Ext.refl _ _,?_⟩
 refine LdST.blk (ts := LiA34) (pre := [.int .i64 (g.1),.int .i64 (g.2.1),.int .i64 (g.2.2.1),.int .i64 (g.2.2.2.1),.int .i64 (g.2.2.2.2.1),.int .i64 (g.2.2.2.2.2.1),.int .i64 (g.2.2.2.2.2.2.1),.int .i64 (g.2.2.2.2.2.2.2.1),.int .i64 (g.2.2.2.2.2.2.2.2.1),.int .i64 (g.2.2.2.2.2.2.2.2.2.1),Slc.v (g.2.2.2.2.2.2.2.2.2.2.1),.int .i64 (g.2.2.2.2.2.2.2.2.2.2.2.1),.int .i64 (g.2.2.2.2.2.2.2.2.2.2.2.2.1),.int .i64 (g.2.2.2.2.2.2.2.2.2.2.2.2.2.1),.int .i64 (g.2.2.2.2.2.2.2.2.2.2.2.2.2.2.1),.int .i64 (g.2.2.2.2.2.2.2.2.2.2.2.2.2.2.2.1),.int .i64 (g.2.2.2.2.2.2.2.2.2.2.2.2.2.2.2.2.1),.int .i64 (g.2.2.2.2.2.2.2.2.2.2.2.2.2.2.2.2.2.1),.int .i64 (g.2.2.2.2.2.2.2.2.2.2.2.2.2.2.2.2.2.2.1),.int .i64 (g.2.2.2.2.2.2.2.2.2.2.2.2.2.2.2.2.2.2.2.1),.int .i64 (g.2.2.2.2.2.2.2.2.2.2.2.2.2.2.2.2.2.2.2.2.1),.int .i64 (g.2.2.2.2.2.2.2.2.2.2.2.2.2.2.2.2.2.2.2.2.2.1),.int .i64 (g.2.2.2.2.2.2.2.2.2.2.2.2.2.2.2.2.2.2.2.2.2.2.1),.int .i64 (g.2.2.2.2.2.2.2.2.2.2.2.2.2.2.2.2.2.2.2.2.2.2.2.1),.int .i64 (g.2.2.2.2.2.2.2.2.2.2.2.2.2.2.2.2.2.2.2.2.2.2.2.2.1),.int .i64 (g.2.2.2.2.2.2.2.2.2.2.2.2.2.2.2.2.2.2.2.2.2.2.2.2.2.1),.int .i64 (g.2.2.2.2.2.2.2.2.2.2.2.2.2.2.2.2.2.2.2.2.2.2.2.2.2.2.1),.int .i64 (g.2.2.2.2.2.2.2.2.2.2.2.2.2.2.2.2.2.2.2.2.2.2.2.2.2.2.2.1),.string (g.2.2.2.2.2.2.2.2.2.2.2.2.2.2.2.2.2.2.2.2.2.2.2.2.2.2.2.2.1),.int .i64 (g.2.2.2.2.2.2.2.2.2.2.2.2.2.2.2.2.2.2.2.2.2.2.2.2.2.2.2.2.2)]) (post := []) (t := 84) (x := x) (fun w' hw=> hw.blk (H.get 0 rfl) id) rfl ?_
 refine LdST.blk (ts := LiA34) (pre := [.int .i64 (g.1),.int .i64 (g.2.1),.int .i64 (g.2.2.1),.int .i64 (g.2.2.2.1),.int .i64 (g.2.2.2.2.1),.int .i64 (g.2.2.2.2.2.1),.int .i64 (g.2.2.2.2.2.2.1),.int .i64 (g.2.2.2.2.2.2.2.1),.int .i64 (g.2.2.2.2.2.2.2.2.1),.int .i64 (g.2.2.2.2.2.2.2.2.2.1),Slc.v (g.2.2.2.2.2.2.2.2.2.2.1),.int .i64 (g.2.2.2.2.2.2.2.2.2.2.2.1),.int .i64 (g.2.2.2.2.2.2.2.2.2.2.2.2.1),.int .i64 (g.2.2.2.2.2.2.2.2.2.2.2.2.2.1),.int .i64 (g.2.2.2.2.2.2.2.2.2.2.2.2.2.2.1),.int .i64 (g.2.2.2.2.2.2.2.2.2.2.2.2.2.2.2.1),.int .i64 (g.2.2.2.2.2.2.2.2.2.2.2.2.2.2.2.2.1),.int .i64 (g.2.2.2.2.2.2.2.2.2.2.2.2.2.2.2.2.2.1),.int .i64 (g.2.2.2.2.2.2.2.2.2.2.2.2.2.2.2.2.2.2.1),.int .i64 (g.2.2.2.2.2.2.2.2.2.2.2.2.2.2.2.2.2.2.2.1),.int .i64 (g.2.2.2.2.2.2.2.2.2.2.2.2.2.2.2.2.2.2.2.2.1),.int .i64 (g.2.2.2.2.2.2.2.2.2.2.2.2.2.2.2.2.2.2.2.2.2.1),.int .i64 (g.2.2.2.2.2.2.2.2.2.2.2.2.2.2.2.2.2.2.2.2.2.2.1),.int .i64 (g.2.2.2.2.2.2.2.2.2.2.2.2.2.2.2.2.2.2.2.2.2.2.2.1),.int .i64 (g.2.2.2.2.2.2.2.2.2.2.2.2.2.2.2.2.2.2.2.2.2.2.2.2.1),.int .i64 (g.2.2.2.2.2.2.2.2.2.2.2.2.2.2.2.2.2.2.2.2.2.2.2.2.2.1),.int .i64 (g.2.2.2.2.2.2.2.2.2.2.2.2.2.2.2.2.2.2.2.2.2.2.2.2.2.2.1),.int .i64 (g.2.2.2.2.2.2.2.2.2.2.2.2.2.2.2.2.2.2.2.2.2.2.2.2.2.2.2.1),.string (g.2.2.2.2.2.2.2.2.2.2.2.2.2.2.2.2.2.2.2.2.2.2.2.2.2.2.2.2.1),.int .i64 (g.2.2.2.2.2.2.2.2.2.2.2.2.2.2.2.2.2.2.2.2.2.2.2.2.2.2.2.2.2)]) (post := []) (t := 84) (x := x) (fun w' hw=> hw.blk (H.get 0 rfl) id) rfl ?_
 refine (c_chk (hT.keep E0) (h.keep E0)).mono ?_
 rintro r2 w30 ⟨rfl,e30⟩
 refine ⟨e30,(c_mustF x _ _).mono (fun r3 w32 h32=> ?_) fun v w32 h32=> ?_⟩
 case refine_2=>
  obtain ⟨rfl,hk,e32⟩ := h32
  exact ⟨_,rfl,hk,ask _ (by unfold askE; rw [if_neg (by simp [hg,hm]),if_pos hk]) hk,(E0.tr e30).tr e32⟩
 obtain ⟨rfl,hk,e32⟩ := h32
 have hmay := chk_may hk
 have H := (H.keep e30).keep e32
 refine H.ldT (i := 0) (pre := [.int .i64 (g.1),.int .i64 (g.2.1),.int .i64 (g.2.2.1),.int .i64 (g.2.2.2.1),.int .i64 (g.2.2.2.2.1),.int .i64 (g.2.2.2.2.2.1),.int .i64 (g.2.2.2.2.2.2.1),.int .i64 (g.2.2.2.2.2.2.2.1),.int .i64 (g.2.2.2.2.2.2.2.2.1),.int .i64 (g.2.2.2.2.2.2.2.2.2.1),Slc.v (g.2.2.2.2.2.2.2.2.2.2.1),.int .i64 (g.2.2.2.2.2.2.2.2.2.2.2.1),.int .i64 (g.2.2.2.2.2.2.2.2.2.2.2.2.1),.int .i64 (g.2.2.2.2.2.2.2.2.2.2.2.2.2.1),.int .i64 (g.2.2.2.2.2.2.2.2.2.2.2.2.2.2.1),.int .i64 (g.2.2.2.2.2.2.2.2.2.2.2.2.2.2.2.1),.int .i64 (g.2.2.2.2.2.2.2.2.2.2.2.2.2.2.2.2.1),.int .i64 (g.2.2.2.2.2.2.2.2.2.2.2.2.2.2.2.2.2.1),.int .i64 (g.2.2.2.2.2.2.2.2.2.2.2.2.2.2.2.2.2.2.1),.int .i64 (g.2.2.2.2.2.2.2.2.2.2.2.2.2.2.2.2.2.2.2.1),.int .i64 (g.2.2.2.2.2.2.2.2.2.2.2.2.2.2.2.2.2.2.2.2.1),.int .i64 (g.2.2.2.2.2.2.2.2.2.2.2.2.2.2.2.2.2.2.2.2.2.1),.int .i64 (g.2.2.2.2.2.2.2.2.2.2.2.2.2.2.2.2.2.2.2.2.2.2.1),.int .i64 (g.2.2.2.2.2.2.2.2.2.2.2.2.2.2.2.2.2.2.2.2.2.2.2.1),.int .i64 (g.2.2.2.2.2.2.2.2.2.2.2.2.2.2.2.2.2.2.2.2.2.2.2.2.1),.int .i64 (g.2.2.2.2.2.2.2.2.2.2.2.2.2.2.2.2.2.2.2.2.2.2.2.2.2.1),.int .i64 (g.2.2.2.2.2.2.2.2.2.2.2.2.2.2.2.2.2.2.2.2.2.2.2.2.2.2.1),.int .i64 (g.2.2.2.2.2.2.2.2.2.2.2.2.2.2.2.2.2.2.2.2.2.2.2.2.2.2.2.1),.string (g.2.2.2.2.2.2.2.2.2.2.2.2.2.2.2.2.2.2.2.2.2.2.2.2.2.2.2.2.1),.int .i64 (g.2.2.2.2.2.2.2.2.2.2.2.2.2.2.2.2.2.2.2.2.2.2.2.2.2.2.2.2.2)]) (post := []) (ts := LiA34) (x := r3) rfl rfl ?_
 refine (c_codes (h.keep H.ext) hs).mono ?_
 rintro rc ec w36 ⟨rfl,hrc,e36,hco⟩
 have H36 := H.keep e36
 have hlt := H.all_lt (j := wa.heap.size) (by simp)
 refine (c_mustS rc _ _).mono (fun r4 w38 h38=> ?_) fun v w38 h38=> ?_
 case refine_2=>
  obtain ⟨rfl,hk2,rfl⟩ := h38
  exact ⟨_,rfl,hk2,ask _ (by unfold askE; rw [if_neg (by simp [hg,hm]),if_neg (by simp [hk]),if_pos hk2]) hk2,H36.ext⟩
 obtain ⟨rfl,hk2,rfl⟩ := h38
 have hcl := VRow.count icell_len (by decide) hrc
 refine (c_need _ _ _).mono (fun w39 h39=> ?_) fun v w39 h39=> ?_
 case refine_2=>
  obtain ⟨rfl,hk3,rfl⟩ := h39
  rw [decide_eq_false_iff_not,hcl] at hk3
  exact ⟨6,rfl,by decide,ask 6 (by unfold askE; rw [if_neg (by simp [hg,hm]),if_neg (by simp [hk]),if_neg (by simp [hk2]),if_pos (by omega)]) (by decide),H36.ext⟩
 obtain ⟨hk3,rfl⟩ := h39
 rw [decide_eq_true_eq,hcl] at hk3
 have hask : askE g r f s = 0 := by unfold askE; rw [if_neg (by simp [hg,hm]),if_neg (by simp [hk]),if_neg (by simp [hk2]),if_neg (by omega)]
 have hcin := codes_in f.wide s
 generalize hcsE : (codesF f.wide s).1 = cs at *
 have HS := H36.size
 have h36 := e36.size
 refine ⟨fun n st w1=> ∃ (i : Nat) (pre : List GlT) (mi : Mx),st.2 = (i : Int) /\ i <= cs.length /\ n = cs.length - i /\ pre.length = i /\ showP g f cs r = ((showP g f (cs.drop i) mi).map fun y=> (pre ++ y.1,y.2)) /\
   Row w1 st.1 70 9 (pre.flatMap glc) /\ (∀ j,st.1.own j -> w39.heap.size <= j) /\ Ext (· = wa.heap.size) w39 w1 /\
   Hn w w1 [(w.heap.size,hac g r3,84),(wa.heap.size,mrow mi,24),(w5.heap.size,mrow noM,24)],cs.length,
  ⟨0,[],r,rfl,Nat.zero_le _,rfl,rfl,by rw [List.drop_zero]; cases showP g f cs r <;> rfl,Row.nil _ _ _,fun j hj=> (no_own j hj).elim,Ext.refl _ _,H36⟩,?_⟩
 rintro n ⟨so,i'⟩ w41 ⟨i,pre,mi,hi',hi,rfl,hpl,hsp,hR,ho,e41,H⟩
 simp only at hi' hR ho
 subst hi'
 unfold S55L1
 dsimp only
 rw [hcl]
 refine Br.dec (fun q=> ?_) fun q=> ?_
 ·have hil : i < cs.length := by omega
  have hV := hrc.keepF e41 (fun j hj hne=> by have := hco j hj; omega)
  obtain ⟨a,ha,hcell⟩ := VRow.elem icell_len hV (List.getElem?_eq_getElem hil) (by decide)
  rw [ha]
  refine ⟨by omega,by omega,Nn.of (Ld.mk (x := cs[i]) (by have := hcell 0 _ rfl; simpa using this) ?_)⟩
  refine H.ldT (i := 0) (pre := []) (post := []) (ts := LiA83) (x := hand g r3) rfl rfl ?_
  refine H.ld 1 rfl (x := mi.1) rfl (H.ld 1 rfl (x := mi.2.1) rfl (H.ld 1 rfl (x := mi.2.2.1) rfl (H.ld 1 rfl (x := mi.2.2.2.1) rfl (H.ld 1 rfl (x := mi.2.2.2.2.1) rfl (H.ld 1 rfl (x := mi.2.2.2.2.2) rfl ?_)))))
  have hci := hcin _ (List.getElem_mem hil)
  have hdr : cs.drop i = cs[i] :: cs.drop (i + 1) := List.drop_eq_getElem_cons hil
  refine (c_sign (g := g) (hT.keep H.ext) (h.keep H.ext) hmay hg (code := cs[i]) (by unfold I64; omega) mi).mono (fun gl nx w54 h54=> ?_) fun v w54 h54=> ?_
  case refine_2=>
   refine ⟨2,h54.1,by decide,?_,H.ext.tr h54.2.2⟩
   have : showP g f cs r = none := by
    rw [hsp,hdr]
    unfold showP
    rw [h54.2.1]
    rfl
   unfold stringF
   rw [if_neg (by rw [hask]; simp),hcsE,this]
  obtain ⟨hsg,e54⟩ := h54
  have HS41 := H.size
  have h41s := e41.size
  have HM := H
  have H := (Hn.start w41).keep e54
  refine H.nw fun w55 H=> H.nw fun w56 H=> ?_
  refine H.stT (i := 0) (ts := LiA69) (pre := []) (post := []) (zs := [.int .i64 0,.string ⟨#[]⟩,.int .i64 0,.int .i64 0,.int .i64 0,.int .i64 0,.int .i64 0,.string ⟨#[]⟩,.int .i64 0]) rfl rfl rfl fun w57 H=> ?_
  simp only [List.nil_append,List.cons_append,List.set_cons_zero,List.set_cons_succ,Nat.zero_add] at H
  iterate 6 (refine H.st 1 rfl (by simp) fun _ H=> ?_; simp only [List.nil_append,List.cons_append,List.set_cons_zero,List.set_cons_succ,Nat.zero_add] at H)
  refine H.ldT (i := 0) (ts := LiA69) (pre := []) (post := []) (x := gl) rfl rfl ?_
  refine Nw.of ?_
  rename_i wq
  have e1 := (Ext.refl (fun _=> False) wq).alloc (.cells (glc gl).toArray 70)
  have hsl : so.len = pre.length := VRow.count glc_len (by decide) (Row.view hR)
  obtain ⟨s',w',hrun,hrow,hlen',hext,hown⟩ := elGl.app1 (ty := 49) (ys := glc gl) ((hR.keep H.ext fun _ _ e=> e).keep e1 fun _ _ e=> e) (Blk.new wq (glc gl).toArray 70) rfl (glc_one _) (by omega) (by omega)
  have hol : ∀ j,so.own j -> j < w41.heap.size := fun j hj=> hR.own_lt hj
  have E41 : Ext (fun _=> False) w41 _ := H.ext.tr e1
  have EM : Ext (· = wa.heap.size) w39 w' := (e41.trans E41 (fun _ h=> h) fun _ _ h=> h.elim).trans hext (fun _ h=> h) fun j hj hw=> by
   have := ho j hw
   omega
  have hge := H.ge 1 rfl
  have hB : Blk w' w55.heap.size (mrow nx).toArray 24 := hext.blk ((H.keep e1).get 1 rfl) fun hj=> by
   have := hol _ hj
   omega
  refine ⟨s',w',hrun,?_⟩
  refine Ld.of hB (x := nx.1) rfl (Ld.of hB (x := nx.2.1) rfl (Ld.of hB (x := nx.2.2.1) rfl (Ld.of hB (x := nx.2.2.2.1) rfl (Ld.of hB (x := nx.2.2.2.2.1) rfl (Ld.of hB (x := nx.2.2.2.2.2) rfl ?_)))))
  have H : Hn w w' [(w.heap.size,hac g r3,84),(wa.heap.size,mrow mi,24),(w5.heap.size,mrow noM,24)] := (HM.keep E41).other hext fun j hj=> by
   have h1 := ho j hj
   have h2 := H36.all_lt (j := w.heap.size) (by simp)
   have h3 := H36.all_lt (j := wa.heap.size) (by simp)
   have h4 := H36.all_lt (j := w5.heap.size) (by simp)
   refine ⟨by omega,?_⟩
   simp only [List.map_cons,List.map_nil,List.mem_cons,List.not_mem_nil,or_false]
   omega
  refine H.st' 1 rfl (by simp) fun wq1 H he1=> ?_
  simp only [List.nil_append,List.cons_append,List.set_cons_zero,List.set_cons_succ,Nat.zero_add] at H
  refine H.st' 1 rfl (by simp) fun wq2 H he2=> ?_
  simp only [List.nil_append,List.cons_append,List.set_cons_zero,List.set_cons_succ,Nat.zero_add] at H
  refine H.st' 1 rfl (by simp) fun wq3 H he3=> ?_
  simp only [List.nil_append,List.cons_append,List.set_cons_zero,List.set_cons_succ,Nat.zero_add] at H
  refine H.st' 1 rfl (by simp) fun wq4 H he4=> ?_
  simp only [List.nil_append,List.cons_append,List.set_cons_zero,List.set_cons_succ,Nat.zero_add] at H
  refine H.st' 1 rfl (by simp) fun wq5 H he5=> ?_
  simp only [List.nil_append,List.cons_append,List.set_cons_zero,List.set_cons_succ,Nat.zero_add] at H
  refine H.st' 1 rfl (by simp) fun wq6 H he6=> ?_
  simp only [List.nil_append,List.cons_append,List.set_cons_zero,List.set_cons_succ,Nat.zero_add] at H
  have E6 : Ext (· = wa.heap.size) w' wq6 := ((((he1.tr he2).tr he3).tr he4).tr he5).tr he6
  refine ⟨cs.length - (i + 1),by omega,i + 1,pre ++ [gl],nx,by rw [i64_id (by omega)]; rfl,by omega,rfl,by rw [List.length_append,hpl]; rfl,?_,?_,?_,EM.tr E6,H⟩
  ·rw [hsp,hdr]
   show Option.map _ ((signP g f mi cs[i]).bind _) = _
   rw [hsg]
   show Option.map _ ((showP g f (cs.drop (i + 1)) nx).bind _) = _
   cases showP g f (cs.drop (i + 1)) nx with
   | none=> rfl
   | some y=> simp
  ·rw [List.flatMap_append]
   refine Row.keep (by simpa using hrow) E6 fun j hj e=> ?_
   rcases hown j hj with h1 | h1
   ·have := ho j h1
    omega
   ·have := E41.size
    have := hext.size
    omega
  ·intro j hj
   rcases hown j hj with h1 | h1
   ·exact ho j h1
   ·have := E41.size
    have := e41.size
    omega
 ·have : i = cs.length := by omega
  subst this
  rw [List.drop_length] at hsp
  have H := H.drew
  iterate 6 refine H.ld 1 rfl rfl ?_
  refine H.st' 2 rfl (by simp) fun wq1 H he1=> ?_
  simp only [List.nil_append,List.cons_append,List.set_cons_zero,List.set_cons_succ,Nat.zero_add] at H
  refine H.st' 2 rfl (by simp) fun wq2 H he2=> ?_
  simp only [List.nil_append,List.cons_append,List.set_cons_zero,List.set_cons_succ,Nat.zero_add] at H
  refine H.st' 2 rfl (by simp) fun wq3 H he3=> ?_
  simp only [List.nil_append,List.cons_append,List.set_cons_zero,List.set_cons_succ,Nat.zero_add] at H
  refine H.st' 2 rfl (by simp) fun wq4 H he4=> ?_
  simp only [List.nil_append,List.cons_append,List.set_cons_zero,List.set_cons_succ,Nat.zero_add] at H
  refine H.st' 2 rfl (by simp) fun wq5 H he5=> ?_
  simp only [List.nil_append,List.cons_append,List.set_cons_zero,List.set_cons_succ,Nat.zero_add] at H
  refine H.st' 2 rfl (by simp) fun wq6 H he6=> ?_
  simp only [List.nil_append,List.cons_append,List.set_cons_zero,List.set_cons_succ,Nat.zero_add] at H
  have E6 : Ext (· = w5.heap.size) w41.drew wq6 := ((((he1.tr he2).tr he3).tr he4).tr he5).tr he6
  iterate 6 refine H.ld 2 rfl rfl ?_
  have hl5 := H36.all_lt (j := w5.heap.size) (by simp)
  exact ⟨hask,H.ext,pre,by rw [hsp]; simp [showP],(Row.view (hR.keep (Ext.refl (fun _=> False) w41).drew fun _ _ e=> e)).keepF E6 (fun j hj e=> by have := ho j hj; omega),fun j hj=> by have := ho j hj; omega⟩
end
end Sw
end Go.Proofs.YtcblpehnkogfdaaGreatDoor
namespace Go.Proofs.YtcblpehnkogfdaaGreatDoor
namespace Sw
open Sh Mat Fix Fo
set_option maxRecDepth 4000
set_option maxHeartbeats 4000000
attribute [local irreducible] Ld St Nw Nn Lt LdS
theorem c_caught_nil (a : Option Addr) (w : World) : C30 Value.nilIface a w (fun w1=> w1 = w) fun _ _=> False := by
 refine T30_nil _ _ _ _ ?_
 unfold S30_nil
 rfl
theorem c_caught {w0 w : World} {L : List (Nat × List Value × TypeId)} {b o : Nat} {cs : List Value} {t : TypeId} (H : Hn w0 w L) (e : Int) (i : Nat) (hi : L[i]? = some (b,cs,t)) (ho : o < cs.length) :
  C30 (gup e) (some ⟨b,o,none⟩) w (fun w1=> Hn w0 w1 (L.set i (b,cs.set o (.int .i64 e),t))) fun _ _=> False := by
 refine T30_T106 _ _ _ _ _ ?_
 unfold S30_T106
 have hi' : (L ++ [(w.heap.size,[.int .i64 0],106)])[i]? = some (b,cs,t) := by
  rw [List.getElem?_append_left (List.getElem?_eq_some_iff.1 hi).1]; exact hi
 have hl : (L ++ [(w.heap.size,[.int .i64 0],106)])[L.length]? = some (w.heap.size,[.int .i64 0],106) := by simp
 refine H.nw' fun w2 H2 he2=> ?_
 refine H2.st' L.length hl (by simp) fun w3 H3 he3=> ?_
 have hlen : L.length < (L ++ [(w.heap.size,[Value.int .i64 0],106)]).length := by simp
 refine H3.ld L.length (by rw [List.getElem?_set_self hlen]) rfl (Nn.of ?_)
 have H4 := H.keep he2
 have H5 := H4.other he3 (fun j hj=> ⟨by rw [hj]; exact H.size,fun hm=> by
  have := H.all_lt hm
  omega⟩)
 exact H5.st i hi ho fun w4 H6=> H6
section
variable {w : World} {g : GT} {x : FT} {f : Font}
theorem c_stepW (hT : TB w) (h : FoV w x f) {code : Int} (hc : I64 code) : C11 g x code w fun r e w1=> (r,e) = stepF g f code /\ Ext (fun _=> False) w w1 := by
 refine T11 _ _ _ _ _ ?_
 unfold S11
 refine Nw.of ?_
 have H := gr_blk w g
 generalize w.alloc (.cells (Sig.cells LiA30 g).toArray 31) = wa at *
 refine H.nw fun w5 H=> H.nw fun w6 H=> H.nw fun w7 H=> ?_
 have bad : ∀ (e : Int) (w1 : World),e ≠ 0 -> stepF g f code = (0,e) -> Ext (fun _=> False) w7 w1 -> S11P w5 w6 (fun r e w1=> (r,e) = stepF g f code /\ Ext (fun _=> False) w w1) (gup e) w1 := fun e w1 he hF e1=> by
  have H := H.keep e1
  unfold S11P
  refine T29_T106 _ _ _ _ _ ?_
  unfold S29_T106
  refine (c_caught H e 3 rfl (by simp)).mono (fun w5 H=> ?_) fun _ _ h=> h.elim
  simp only [List.nil_append,List.cons_append,List.set_cons_zero,List.set_cons_succ,Nat.zero_add] at H
  refine H.ld 3 rfl (x := e) rfl (Br.ne (fun _=> ?_) fun h0=> absurd h0 he)
  iterate 1 (refine H.st 2 rfl (by simp) fun _ H=> ?_; simp only [List.nil_append,List.cons_append,List.set_cons_zero,List.set_cons_succ,Nat.zero_add] at H)
  exact H.ld 2 rfl (x := 0) rfl (H.ld 3 rfl (x := e) rfl ⟨hF.symm,H.ext⟩)
 refine H.ldT (i := 0) (pre := []) (post := []) (ts := LiA30) (x := g) rfl rfl ?_
 refine (c_use g _).mono (fun w14 h14=> ?_) fun v w14 h14=> by
  obtain ⟨rfl,hg,e14⟩ := h14
  exact bad 2 w14 (by decide) (by unfold stepF; rw [if_pos hg]) e14
 obtain ⟨hg,e14⟩ := h14
 have E14 := e14.drew
 have H14 := H.keep E14
 refine ⟨Ext (fun _=> False) w14.drew,Ext.refl _ _,?_⟩
 refine LdST.blk (ts := LiA34) (pre := []) (post := []) (t := 35) (x := x) (fun w' hw=> hw.blk (H14.get 1 rfl) id) rfl ?_
 refine LdST.blk (ts := LiA34) (pre := []) (post := []) (t := 35) (x := x) (fun w' hw=> hw.blk (H14.get 1 rfl) id) rfl ?_
 refine (c_chk (hT.keep H14.ext) (h.keep H14.ext)).mono ?_
 rintro r w19 ⟨rfl,e19⟩
 refine ⟨e19,(c_mustF x _ _).mono (fun r2 w21 h21=> ?_) fun v w21 h21=> ?_⟩
 case refine_2=>
  obtain ⟨rfl,hk,e21⟩ := h21
  exact bad _ w21 hk (by unfold stepF; rw [if_neg (by simp [hg]),if_pos hk]) ((E14.tr e19).tr e21)
 obtain ⟨rfl,hk,e21⟩ := h21
 have hmay := chk_may hk
 have E21 := (E14.tr e19).tr e21
 have H21 := H.keep E21
 refine H21.ldT (i := 0) (pre := []) (post := []) (ts := LiA30) (x := g) rfl rfl ?_
 refine H21.ldT (i := 1) (pre := []) (post := []) (ts := LiA34) (x := r2) rfl rfl ?_
 refine (Hn.start w21).nw fun w24 K=> ?_
 refine K.stT (i := 0) (pre := []) (post := []) (ts := LiA83) (x := hand g r2) (zs := [.int .i64 0,.int .i64 0,.int .i64 0,.int .i64 0,.int .i64 0,.int .i64 0,.int .i64 0,.int .i64 0,.int .i64 0,.int .i64 0,Slc.v ⟨none,0,0⟩,.int .i64 0,.int .i64 0,.int .i64 0,.int .i64 0,.int .i64 0,.int .i64 0,.int .i64 0,.int .i64 0,.int .i64 0,.int .i64 0,.int .i64 0,.int .i64 0,.int .i64 0,.int .i64 0,.int .i64 0,.int .i64 0,.int .i64 0,.string ⟨#[]⟩,.int .i64 0,.string ⟨#[]⟩,.bool false,.int .i64 0,Slc.v ⟨none,0,0⟩,.int .i64 0,Slc.v ⟨none,0,0⟩,Slc.v ⟨none,0,0⟩]) rfl rfl rfl fun w25 K=> ?_
 have K := K.drew
 have E25 := E21.tr K.ext
 refine ⟨Ext (fun _=> False) w25.drew,Ext.refl _ _,?_⟩
 refine LdST.blk (ts := LiA83) (pre := []) (post := []) (t := 84) (x := hand g r2) (fun w' hw=> hw.blk (K.get 0 rfl) id) rfl ?_
 refine LdST.blk (ts := LiA83) (pre := []) (post := []) (t := 84) (x := hand g r2) (fun w' hw=> hw.blk (K.get 0 rfl) id) rfl ?_
 have hF : stepF g f code = resI ((widthP g f code).bind fun w=> stepP g f code w) := by
  unfold stepF
  rw [if_neg (by simp [hg]),if_neg (by simp [hk])]
 refine (c_wide (g := g) (h.keep (H.ext.tr E25)) hmay hc).mono (fun wd w30 h30=> ?_) fun v w30 h30=> by
  obtain ⟨rfl,hn,e30⟩ := h30
  exact bad 2 w30 (by decide) (by rw [hF,hn]; rfl) (E25.tr e30)
 obtain ⟨hwd,e30⟩ := h30
 refine ⟨e30,(c_step (g := g) (h.keep ((H.ext.tr E25).tr e30)) (useG_in hg).2.2.2.1).mono (fun st w32 h32=> ?_) fun v w32 h32=> by
  obtain ⟨rfl,hn,e32⟩ := h32
  exact bad 2 w32 (by decide) (by rw [hF,hwd]; show resI (stepP g f code wd) = _; rw [hn]; rfl) ((E25.tr e30).tr e32)⟩
 obtain ⟨hst,e32⟩ := h32
 have H := H.keep ((E25.tr e30).tr e32)
 iterate 1 (refine H.st 2 rfl (by simp) fun _ H=> ?_; simp only [List.nil_append,List.cons_append,List.set_cons_zero,List.set_cons_succ,Nat.zero_add] at H)
 iterate 1 (refine H.st 3 rfl (by simp) fun _ H=> ?_; simp only [List.nil_append,List.cons_append,List.set_cons_zero,List.set_cons_succ,Nat.zero_add] at H)
 refine T29_nil _ _ _ _ ?_
 unfold S29_nil
 refine (c_caught_nil _ _).mono (fun w1 h1=> ?_) fun _ _ h=> h.elim
 subst h1
 refine H.ld 3 rfl (x := 0) rfl (Br.ne (fun h0=> absurd rfl h0) fun _=> ?_)
 exact H.ld 2 rfl (x := st) rfl (H.ld 3 rfl (x := 0) rfl ⟨by rw [hF,hwd]; show _ = resI (stepP g f code wd); rw [hst]; rfl,H.ext⟩)
end
end Sw
end Go.Proofs.YtcblpehnkogfdaaGreatDoor
namespace Go.Proofs.YtcblpehnkogfdaaGreatDoor
namespace Sw
open Sh Mat Fix Fo
set_option maxRecDepth 100000
set_option maxHeartbeats 4000000
def g0 : GT := (10000,0,0,10000,0,0,10000,0,0,100000,⟨none,0,0⟩,0,0,0,0,0,0,0,0,0,0,0,0,0,1000000,0,100000,0,⟨#[]⟩,0)
theorem showP_len {g : GT} {f : Font} : ∀ (cs : List Int) {m m' : Mx} {L : List GlT},showP g f cs m = some (L,m') -> L.length = cs.length
 | [],m,m',L,h=> by cases h; rfl
 | c :: cs,m,m',L,h=> by
  unfold showP at h
  obtain ⟨x,h1,h⟩ := Option.bind_eq_some_iff.1 h
  obtain ⟨y,h2,h⟩ := Option.bind_eq_some_iff.1 h
  cases h
  rw [List.length_cons,List.length_cons,showP_len cs (m' := y.2) (L := y.1) h2]
theorem ask_parts {g : GT} {m : Mx} {f : Font} {s : ByteArray} (h : askE g m f s = 0) : useG g = true /\ Mat.okM m = true /\ chkF f = 0 /\ (codesF f.wide s).2 = 0 /\ (codesF f.wide s).1.length <= 16384 := by
 unfold askE at h
 split at h
 ·cases h
 ·rename_i h1
  split at h
  ·rename_i h2
   exact absurd h h2
  ·rename_i h2
   split at h
   ·rename_i h3
    exact absurd h h3
   ·rename_i h3
    split at h
    ·cases h
    ·rename_i h4
     refine ⟨?_,?_,Decidable.of_not_not h2,Decidable.of_not_not h3,by omega⟩
     ·cases hg : useG g with
      | true=> rfl
      | false=> exact absurd (.inl hg) h1
     ·cases hg : Mat.okM m with
      | true=> rfl
      | false=> exact absurd (.inr hg) h1
theorem ask_of {g : GT} {m : Mx} {f : Font} {s : ByteArray} (h1 : useG g = true) (h2 : Mat.okM m = true) (h3 : chkF f = 0) (h4 : (codesF f.wide s).2 = 0) (h5 : (codesF f.wide s).1.length <= 16384) : askE g m f s = 0 := by
 unfold askE
 rw [if_neg (by simp [h1,h2]),if_neg (by simp [h3]),if_neg (by simp [h4]),if_neg (by omega)]
theorem string_of {g : GT} {m m' : Mx} {f : Font} {s : ByteArray} {L : List GlT} (h : askE g m f s = 0) (hs : showP g f (codesF f.wide s).1 m = some (L,m')) : stringF g m f s = (L,m',0) := by
 unfold stringF
 rw [if_neg (by rw [h]; simp),hs]
theorem string_yes {g : GT} {m m' : Mx} {f : Font} {s : ByteArray} {L : List GlT} (h : stringF g m f s = (L,m',0)) : askE g m f s = 0 /\ showP g f (codesF f.wide s).1 m = some (L,m') := by
 unfold stringF at h
 split at h
 ·rename_i h1
  exact absurd (Prod.mk.inj (Prod.mk.inj h).2).2 h1
 ·rename_i h1
  refine ⟨Decidable.of_not_not h1,?_⟩
  split at h
  ·rename_i x hx
   cases h
   exact hx
  ·cases h
end Sw
end Go.Proofs.YtcblpehnkogfdaaGreatDoor

/- Numbers read bit by bit: plain laws, no program in sight. No condition. -/
namespace Go.Proofs.YtcblpehnkogfdaaGreatDoor
namespace Bit
open Sh
end Bit
end Go.Proofs.YtcblpehnkogfdaaGreatDoor

/- Content operators: which operands an operator takes; a string's fields, as the library finds them; plain. No condition. -/
namespace Go.Proofs.YtcblpehnkogfdaaGreatDoor
namespace Opr
open Sh Go.Lib
abbrev By := List UInt8
def rows : List (By × By × List By) := [
 ([],[98,32,66,32,98,42,32,66,42,32,66,84,32,69,84,32,69,77,67,32,66,88,32,69,88,32,102,32,70,32,102,42,32,104,32,110,32,113,32,81,32,115,32,83,32,84,42,32,87,32,87,42],[[98],[66],[98,42],[66,42],[66,84],[69,84],[69,77,67],[66,88],[69,88],[102],[70],[102,42],[104],[110],[113],[81],[115],[83],[84,42],[87],[87,42]]),
 ([110],[103,32,71,32,105,32,106,32,74,32,77,32,119,32,84,99,32,84,76,32,84,114,32,84,115,32,84,119,32,84,122],[[103],[71],[105],[106],[74],[77],[119],[84,99],[84,76],[84,114],[84,115],[84,119],[84,122]]),
 ([110,110],[100,48,32,108,32,109,32,84,100,32,84,68],[[100,48],[108],[109],[84,100],[84,68]]),
 ([110,110,110],[114,103,32,82,71],[[114,103],[82,71]]),
 ([110,110,110,110],[107,32,75,32,114,101,32,118,32,121],[[107],[75],[114,101],[118],[121]]),
 ([110,110,110,110,110,110],[99,32,99,109,32,100,49,32,84,109],[[99],[99,109],[100,49],[84,109]]),
 ([78],[66,77,67,32,99,115,32,67,83,32,68,111,32,103,115,32,77,80,32,114,105,32,115,104],[[66,77,67],[99,115],[67,83],[68,111],[103,115],[77,80],[114,105],[115,104]]),
 ([78,110],[84,102],[[84,102]]),
 ([78,42],[66,68,67,32,68,80],[[66,68,67],[68,80]]),
 ([115],[84,106,32,39],[[84,106],[39]]),
 ([110,110,115],[34],[[34]]),
 ([97],[84,74],[[84,74]]),
 ([97,110],[100],[[100]]),
 ([100],[66,73],[[66,73]])]
def takesL (name : By) : List (By × By × List By) -> By
 | []=> [63]
 | r :: rs=> if name ∈ r.2.2 then r.1 else takesL name rs
def takes (name : By) : By := takesL name rows
def fieldsM (s : By) : Option (List By) := if s.all (fun b=> decide (b.toNat < 128)) then some (Lib.fields s) else none
theorem rows_ok : (rows.all fun r=> decide (fieldsM r.2.1 = some r.2.2)) = true := by decide +kernel
end Opr
end Go.Proofs.YtcblpehnkogfdaaGreatDoor

/- The reference of package matrix answers the same. No condition. -/
namespace Go.Proofs.YtcblpehnkogfdaaGreatDoor
namespace Mat
open Sh Fix
set_option maxRecDepth 4000
set_option maxHeartbeats 1000000
theorem row2 {w : World} {b : Nat} {t : TypeId} {x0 x1 : Int} (h : Blk w b #[.int .i64 x0,.int .i64 x1] t) : IRow w ⟨some ⟨b,0,none⟩,2,2⟩ [x0,x1] :=
 IRow.of h rfl fun i hi=> by
  have : i = 0 \/ i = 1 := by simp at hi; omega
  rcases this with rfl | rfl <;> rfl
theorem r_within {s : Slc} {l : List Int} {w : World} (h : IRow w s l) (hl : l.length <= 1000) : C86 s w fun r w1=> r = l.all inW /\ w1 = w := by
 refine T86 _ _ _ ?_
 unfold S86
 have hn := h.1
 refine ⟨fun n st w1=> ∃ i : Nat,st = (i : Int) /\ i <= l.length /\ n = l.length - i /\ w1 = w /\ ∀ j,j < i -> inW (l.getD j 0) = true,l.length,⟨0,rfl,by omega,rfl,rfl,fun j hj=> by omega⟩,?_⟩
 rintro n st w1 ⟨i,rfl,hi,rfl,rfl,hall⟩
 unfold S86L1
 rw [hn]
 refine Br.dec (fun e=> ?_) fun e=> ⟨((all_iff l).2 fun j hj=> hall j (by omega)).symm,rfl⟩
 obtain ⟨a,ha,hc⟩ := h.2 i (by omega)
 rw [ha]
 have hno : inW (l.getD i 0) = false -> false = l.all inW := fun hw=> by
  cases hx : l.all inW with
  | false=> rfl
  | true=> have := (all_iff l).1 hx i (by omega); rw [hw] at this; cases this
 refine ⟨by omega,by omega,Nn.of ⟨l.getD i 0,by rw [Int.toNat_natCast,Nat.mul_one]; exact hc,Br.dec (fun h2=> ⟨hno (inW_no.2 (by omega)),rfl⟩) fun h2=> Br.dec (fun h3=> ⟨hno (inW_no.2 (by omega)),rfl⟩) fun h3=> ?_⟩⟩
 refine ⟨l.length - (i + 1),by omega,i + 1,by rw [i64_id (by omega)]; rfl,by omega,rfl,rfl,fun j hj=> ?_⟩
 by_cases hji : j = i
 ·rw [hji]; exact inW_spec.2 (by omega)
 ·exact hall j (by omega)
attribute [local irreducible] Ld St Nw Nn Lt LdS
theorem r_check (m : Mx) (w : World) : C49 m w fun r w1=> r = (if okM m = true then 0 else 2) /\ Ext (fun _=> False) w w1 := by
 refine T49 _ _ _ ?_
 unfold S49
 refine (Hn.start w).nw fun w2 H=> ?_
 iterate 6 refine H.ld 0 rfl rfl ?_
 refine H.nw fun w3 H=> ?_
 refine (r_within (l := comps m) (row6 (H.get 1 rfl)) (by show 6 <= 1000; decide)).mono ?_
 rintro r w4 ⟨rfl,rfl⟩
 show Br (!okM m) _ _
 cases okM m <;> exact ⟨rfl,H.ext⟩
theorem r_dot {s : Slc} {l : List Int} {w : World} (h : IRow w s l) (hl : l.length = 4 \/ l.length = 6) : C117 s w fun r e w1=> (r,e) = (match dotP l with
  | some n=> (n,0)
  | none=> (0,2)) /\ Ext (fun _=> False) w w1 := by
 refine (Fix.r_dot h (by omega)).mono ?_
 rintro r e w1 ⟨h1,he⟩
 refine ⟨?_,he⟩
 rw [h1]
 exact if_neg (by omega)
theorem r_mul (a b : Mx) (w : World) : C85 a b w fun r e w1=> (r,e) = resM (mulP a b) /\ Ext (fun _=> False) w w1 := by
 refine T85 _ _ _ _ ?_
 unfold S85
 refine (Hn.start w).nw fun w3 H=> H.nw fun w4 H=> H.nw fun w5 H=> ?_
 iterate 6 refine H.ld 0 rfl rfl ?_
 refine (r_check a _).mono ?_
 rintro r w6 ⟨rfl,he⟩
 have H := H.keep he
 have hbad : mulP a b = none -> ((0,0,0,0,0,0),2) = resM (mulP a b) := fun h=> by rw [h]; rfl
 by_cases hka : okM a = true
 case neg=>
  rw [if_neg hka]
  refine Br.ne (fun _=> ?_) fun h=> by cases h
  iterate 6 (refine H.st 2 rfl (by simp) fun _ H=> ?_; simp only [List.nil_append,List.cons_append,List.set_cons_zero,List.set_cons_succ,Nat.zero_add] at H)
  iterate 6 refine H.ld 2 rfl rfl ?_
  exact ⟨hbad (if_neg fun h=> hka h.1),H.ext⟩
 rw [if_pos hka]
 refine Br.ne (fun h=> absurd rfl h) fun _=> ?_
 iterate 6 refine H.ld 1 rfl rfl ?_
 refine (r_check b _).mono ?_
 rintro r w7 ⟨rfl,he⟩
 have H := H.keep he
 by_cases hkb : okM b = true
 case neg=>
  rw [if_neg hkb]
  refine Br.ne (fun _=> ?_) fun h=> by cases h
  iterate 6 (refine H.st 2 rfl (by simp) fun _ H=> ?_; simp only [List.nil_append,List.cons_append,List.set_cons_zero,List.set_cons_succ,Nat.zero_add] at H)
  iterate 6 refine H.ld 2 rfl rfl ?_
  exact ⟨hbad (if_neg fun h=> hkb h.2),H.ext⟩
 rw [if_pos hkb]
 refine Br.ne (fun h=> absurd rfl h) fun _=> ?_
 have hmul : mulP a b = (dotP [a.1,b.1,a.2.1,b.2.2.1]).bind fun p=> (dotP [a.1,b.2.1,a.2.1,b.2.2.2.1]).bind fun q=> (dotP [a.2.2.1,b.1,a.2.2.2.1,b.2.2.1]).bind fun r=> (dotP [a.2.2.1,b.2.1,a.2.2.2.1,b.2.2.2.1]).bind fun s=>
  (dotP [a.2.2.2.2.1,b.1,a.2.2.2.2.2,b.2.2.1,b.2.2.2.2.1,10000]).bind fun t=> (dotP [a.2.2.2.2.1,b.2.1,a.2.2.2.2.2,b.2.2.2.1,b.2.2.2.2.2,10000]).bind fun u=> some (p,q,r,s,t,u) := if_pos ⟨hka,hkb⟩
 repeat (first | refine H.ld 0 rfl rfl ?_ | refine H.ld 1 rfl rfl ?_ | refine H.ld 2 rfl rfl ?_ | refine H.ld 3 rfl rfl ?_ | refine H.ld 4 rfl rfl ?_ | refine H.ld 5 rfl rfl ?_)
 refine H.nw fun w8 H=> (r_dot (row4 (H.get 3 rfl)) (.inl rfl)).mono ?_
 rintro p1 e1 w9 ⟨h1,he⟩
 have H := (H.keep he).left (L := [_,_,_]) (M := [_])
 repeat (first | refine H.ld 0 rfl rfl ?_ | refine H.ld 1 rfl rfl ?_ | refine H.ld 2 rfl rfl ?_ | refine H.ld 3 rfl rfl ?_ | refine H.ld 4 rfl rfl ?_ | refine H.ld 5 rfl rfl ?_)
 refine H.nw fun w8 H=> (r_dot (row4 (H.get 3 rfl)) (.inl rfl)).mono ?_
 rintro p2 e2 w10 ⟨h2,he⟩
 have H := (H.keep he).left (L := [_,_,_]) (M := [_])
 repeat (first | refine H.ld 0 rfl rfl ?_ | refine H.ld 1 rfl rfl ?_ | refine H.ld 2 rfl rfl ?_ | refine H.ld 3 rfl rfl ?_ | refine H.ld 4 rfl rfl ?_ | refine H.ld 5 rfl rfl ?_)
 refine H.nw fun w8 H=> (r_dot (row4 (H.get 3 rfl)) (.inl rfl)).mono ?_
 rintro p3 e3 w11 ⟨h3,he⟩
 have H := (H.keep he).left (L := [_,_,_]) (M := [_])
 repeat (first | refine H.ld 0 rfl rfl ?_ | refine H.ld 1 rfl rfl ?_ | refine H.ld 2 rfl rfl ?_ | refine H.ld 3 rfl rfl ?_ | refine H.ld 4 rfl rfl ?_ | refine H.ld 5 rfl rfl ?_)
 refine H.nw fun w8 H=> (r_dot (row4 (H.get 3 rfl)) (.inl rfl)).mono ?_
 rintro p4 e4 w12 ⟨h4,he⟩
 have H := (H.keep he).left (L := [_,_,_]) (M := [_])
 repeat (first | refine H.ld 0 rfl rfl ?_ | refine H.ld 1 rfl rfl ?_ | refine H.ld 2 rfl rfl ?_ | refine H.ld 3 rfl rfl ?_ | refine H.ld 4 rfl rfl ?_ | refine H.ld 5 rfl rfl ?_)
 refine H.nw fun w8 H=> (r_dot (row6 (H.get 3 rfl)) (.inr rfl)).mono ?_
 rintro p5 e5 w13 ⟨h5,he⟩
 have H := (H.keep he).left (L := [_,_,_]) (M := [_])
 repeat (first | refine H.ld 0 rfl rfl ?_ | refine H.ld 1 rfl rfl ?_ | refine H.ld 2 rfl rfl ?_ | refine H.ld 3 rfl rfl ?_ | refine H.ld 4 rfl rfl ?_ | refine H.ld 5 rfl rfl ?_)
 refine H.nw fun w8 H=> (r_dot (row6 (H.get 3 rfl)) (.inr rfl)).mono ?_
 rintro p6 e6 w14 ⟨h6,he⟩
 have H := (H.keep he).left (L := [_,_,_]) (M := [_])
 -- the sums one by one
 cases d1 : dotP [a.1,b.1,a.2.1,b.2.2.1] with
 | none=>
  rw [d1] at h1 hmul
  obtain ⟨rfl,rfl⟩ := Prod.mk.inj h1
  refine Br.ne (fun _=> ?_) fun h=> by cases h
  iterate 6 (refine H.st 2 rfl (by simp) fun _ H=> ?_; simp only [List.nil_append,List.cons_append,List.set_cons_zero,List.set_cons_succ,Nat.zero_add] at H)
  iterate 6 refine H.ld 2 rfl rfl ?_
  exact ⟨hbad hmul,H.ext⟩
 | some n1=>
 rw [d1] at h1 hmul
 obtain ⟨rfl,rfl⟩ := Prod.mk.inj h1
 refine Br.ne (fun h=> absurd rfl h) fun _=> ?_
 cases d2 : dotP [a.1,b.2.1,a.2.1,b.2.2.2.1] with
 | none=>
  rw [d2] at h2 hmul
  obtain ⟨rfl,rfl⟩ := Prod.mk.inj h2
  refine Br.ne (fun _=> ?_) fun h=> by cases h
  iterate 6 (refine H.st 2 rfl (by simp) fun _ H=> ?_; simp only [List.nil_append,List.cons_append,List.set_cons_zero,List.set_cons_succ,Nat.zero_add] at H)
  iterate 6 refine H.ld 2 rfl rfl ?_
  exact ⟨hbad hmul,H.ext⟩
 | some n2=>
 rw [d2] at h2 hmul
 obtain ⟨rfl,rfl⟩ := Prod.mk.inj h2
 refine Br.ne (fun h=> absurd rfl h) fun _=> ?_
 cases d3 : dotP [a.2.2.1,b.1,a.2.2.2.1,b.2.2.1] with
 | none=>
  rw [d3] at h3 hmul
  obtain ⟨rfl,rfl⟩ := Prod.mk.inj h3
  refine Br.ne (fun _=> ?_) fun h=> by cases h
  iterate 6 (refine H.st 2 rfl (by simp) fun _ H=> ?_; simp only [List.nil_append,List.cons_append,List.set_cons_zero,List.set_cons_succ,Nat.zero_add] at H)
  iterate 6 refine H.ld 2 rfl rfl ?_
  exact ⟨hbad hmul,H.ext⟩
 | some n3=>
 rw [d3] at h3 hmul
 obtain ⟨rfl,rfl⟩ := Prod.mk.inj h3
 refine Br.ne (fun h=> absurd rfl h) fun _=> ?_
 cases d4 : dotP [a.2.2.1,b.2.1,a.2.2.2.1,b.2.2.2.1] with
 | none=>
  rw [d4] at h4 hmul
  obtain ⟨rfl,rfl⟩ := Prod.mk.inj h4
  refine Br.ne (fun _=> ?_) fun h=> by cases h
  iterate 6 (refine H.st 2 rfl (by simp) fun _ H=> ?_; simp only [List.nil_append,List.cons_append,List.set_cons_zero,List.set_cons_succ,Nat.zero_add] at H)
  iterate 6 refine H.ld 2 rfl rfl ?_
  exact ⟨hbad hmul,H.ext⟩
 | some n4=>
 rw [d4] at h4 hmul
 obtain ⟨rfl,rfl⟩ := Prod.mk.inj h4
 refine Br.ne (fun h=> absurd rfl h) fun _=> ?_
 cases d5 : dotP [a.2.2.2.2.1,b.1,a.2.2.2.2.2,b.2.2.1,b.2.2.2.2.1,10000] with
 | none=>
  rw [d5] at h5 hmul
  obtain ⟨rfl,rfl⟩ := Prod.mk.inj h5
  refine Br.ne (fun _=> ?_) fun h=> by cases h
  iterate 6 (refine H.st 2 rfl (by simp) fun _ H=> ?_; simp only [List.nil_append,List.cons_append,List.set_cons_zero,List.set_cons_succ,Nat.zero_add] at H)
  iterate 6 refine H.ld 2 rfl rfl ?_
  exact ⟨hbad hmul,H.ext⟩
 | some n5=>
 rw [d5] at h5 hmul
 obtain ⟨rfl,rfl⟩ := Prod.mk.inj h5
 refine Br.ne (fun h=> absurd rfl h) fun _=> ?_
 cases d6 : dotP [a.2.2.2.2.1,b.2.1,a.2.2.2.2.2,b.2.2.2.1,b.2.2.2.2.2,10000] with
 | none=>
  rw [d6] at h6 hmul
  obtain ⟨rfl,rfl⟩ := Prod.mk.inj h6
  refine Br.ne (fun _=> ?_) fun h=> by cases h
  iterate 6 (refine H.st 2 rfl (by simp) fun _ H=> ?_; simp only [List.nil_append,List.cons_append,List.set_cons_zero,List.set_cons_succ,Nat.zero_add] at H)
  iterate 6 refine H.ld 2 rfl rfl ?_
  exact ⟨hbad hmul,H.ext⟩
 | some n6=>
 rw [d6] at h6 hmul
 obtain ⟨rfl,rfl⟩ := Prod.mk.inj h6
 refine Br.ne (fun h=> absurd rfl h) fun _=> ?_
 refine H.nw fun w15 H=> (r_within (row6 (H.get 3 rfl)) (by simp)).mono ?_
 rintro r w16 ⟨rfl,rfl⟩
 have hin : ([p1,p2,p3,p4,p5,p6].all inW) = true := by
  simp only [List.all_cons,List.all_nil,dotP_in d1,dotP_in d2,dotP_in d3,dotP_in d4,dotP_in d5,dotP_in d6]
  rfl
 rw [hin]
 refine Br_of (fun h=> by cases h) fun _=> ?_
 iterate 6 (refine H.st 2 rfl (by simp) fun _ H=> ?_; simp only [List.nil_append,List.cons_append,List.set_cons_zero,List.set_cons_succ,Nat.zero_add] at H)
 iterate 6 refine H.ld 2 rfl rfl ?_
 refine ⟨?_,H.ext⟩
 rw [hmul]
 rfl
theorem r_apply (m : Mx) (p : Int × Int) (w : World) : C136 m p w fun r e w1=> (r,e) = resP (applyP m p) /\ Ext (fun _=> False) w w1 := by
 refine T136 _ _ _ _ ?_
 unfold S136
 refine (Hn.start w).nw fun w3 H=> H.nw fun w4 H=> H.nw fun w5 H=> ?_
 iterate 6 refine H.ld 0 rfl rfl ?_
 refine (r_check m _).mono ?_
 rintro r w6 ⟨rfl,he⟩
 have H := H.keep he
 have hbad : applyP m p = none -> (((0,0),2) : (Int × Int) × Int) = resP (applyP m p) := fun h=> by rw [h]; rfl
 by_cases hka : okM m = true
 case neg=>
  rw [if_neg hka]
  refine Br.ne (fun _=> ?_) fun h=> by cases h
  iterate 2 (refine H.st 2 rfl (by simp) fun _ H=> ?_; simp only [List.nil_append,List.cons_append,List.set_cons_zero,List.set_cons_succ,Nat.zero_add] at H)
  iterate 2 refine H.ld 2 rfl rfl ?_
  exact ⟨hbad (if_neg fun h=> hka h.1),H.ext⟩
 rw [if_pos hka]
 refine Br.ne (fun h=> absurd rfl h) fun _=> ?_
 iterate 2 refine H.ld 1 rfl rfl ?_
 refine H.nw fun w7 H=> (r_within (row2 (H.get 3 rfl)) (by simp)).mono ?_
 rintro r w8 ⟨rfl,rfl⟩
 have H := H.left (L := [_,_,_]) (M := [_])
 by_cases hi : ([p.1,p.2].all inW) = true
 case neg=>
  have : ([p.1,p.2].all inW) = false := by simpa using hi
  rw [this]
  refine Br_of (fun _=> ?_) fun h=> by cases h
  iterate 2 (refine H.st 2 rfl (by simp) fun _ H=> ?_; simp only [List.nil_append,List.cons_append,List.set_cons_zero,List.set_cons_succ,Nat.zero_add] at H)
  iterate 2 refine H.ld 2 rfl rfl ?_
  refine ⟨hbad (if_neg fun h=> hi ?_),H.ext⟩
  simp only [List.all_cons,List.all_nil,h.2.1,h.2.2]
  rfl
 rw [hi]
 refine Br_of (fun h=> by cases h) fun _=> ?_
 have hi2 : inW p.1 = true /\ inW p.2 = true := by simpa using hi
 have happ : applyP m p = (dotP [p.1,m.1,p.2,m.2.2.1,m.2.2.2.2.1,10000]).bind fun x=> (dotP [p.1,m.2.1,p.2,m.2.2.2.1,m.2.2.2.2.2,10000]).bind fun y=> some (x,y) := if_pos ⟨hka,hi2⟩
 repeat (first | refine H.ld 0 rfl rfl ?_ | refine H.ld 1 rfl rfl ?_ | refine H.ld 2 rfl rfl ?_ | refine H.ld 3 rfl rfl ?_ | refine H.ld 4 rfl rfl ?_ | refine H.ld 5 rfl rfl ?_)
 refine H.nw fun w9 H=> (r_dot (row6 (H.get 3 rfl)) (.inr rfl)).mono ?_
 rintro p1 e1 w10 ⟨h1,he⟩
 have H := (H.keep he).left (L := [_,_,_]) (M := [_])
 repeat (first | refine H.ld 0 rfl rfl ?_ | refine H.ld 1 rfl rfl ?_ | refine H.ld 2 rfl rfl ?_ | refine H.ld 3 rfl rfl ?_ | refine H.ld 4 rfl rfl ?_ | refine H.ld 5 rfl rfl ?_)
 refine H.nw fun w9 H=> (r_dot (row6 (H.get 3 rfl)) (.inr rfl)).mono ?_
 rintro p2 e2 w11 ⟨h2,he⟩
 have H := (H.keep he).left (L := [_,_,_]) (M := [_])
 cases d1 : dotP [p.1,m.1,p.2,m.2.2.1,m.2.2.2.2.1,10000] with
 | none=>
  rw [d1] at h1 happ
  obtain ⟨rfl,rfl⟩ := Prod.mk.inj h1
  refine Br.ne (fun _=> ?_) fun h=> by cases h
  iterate 2 (refine H.st 2 rfl (by simp) fun _ H=> ?_; simp only [List.nil_append,List.cons_append,List.set_cons_zero,List.set_cons_succ,Nat.zero_add] at H)
  iterate 2 refine H.ld 2 rfl rfl ?_
  exact ⟨hbad happ,H.ext⟩
 | some n1=>
 rw [d1] at h1 happ
 obtain ⟨rfl,rfl⟩ := Prod.mk.inj h1
 refine Br.ne (fun h=> absurd rfl h) fun _=> ?_
 cases d2 : dotP [p.1,m.2.1,p.2,m.2.2.2.1,m.2.2.2.2.2,10000] with
 | none=>
  rw [d2] at h2 happ
  obtain ⟨rfl,rfl⟩ := Prod.mk.inj h2
  refine Br.ne (fun _=> ?_) fun h=> by cases h
  iterate 2 (refine H.st 2 rfl (by simp) fun _ H=> ?_; simp only [List.nil_append,List.cons_append,List.set_cons_zero,List.set_cons_succ,Nat.zero_add] at H)
  iterate 2 refine H.ld 2 rfl rfl ?_
  exact ⟨hbad happ,H.ext⟩
 | some n2=>
 rw [d2] at h2 happ
 obtain ⟨rfl,rfl⟩ := Prod.mk.inj h2
 refine Br.ne (fun h=> absurd rfl h) fun _=> ?_
 refine H.nw fun w15 H=> (r_within (row2 (H.get 3 rfl)) (by simp)).mono ?_
 rintro r w16 ⟨rfl,rfl⟩
 have hin : ([p1,p2].all inW) = true := by
  simp only [List.all_cons,List.all_nil,dotP_in d1,dotP_in d2]
  rfl
 rw [hin]
 refine Br_of (fun h=> by cases h) fun _=> ?_
 iterate 2 (refine H.st 2 rfl (by simp) fun _ H=> ?_; simp only [List.nil_append,List.cons_append,List.set_cons_zero,List.set_cons_succ,Nat.zero_add] at H)
 iterate 2 refine H.ld 2 rfl rfl ?_
 refine ⟨?_,H.ext⟩
 rw [happ]
 rfl
theorem r_length (m : Mx) (p : Int × Int) (w : World) : C137 m p w fun r e w1=> IsLen m p (r,e) /\ Ext (fun _=> False) w w1 := by
 refine T137 _ _ _ _ ?_
 unfold S137
 refine (Hn.start w).nw fun w3 H=> H.nw fun w4 H=> ?_
 repeat (first | refine Lt.of ?_ | refine Nn.of ?_ | refine H.ld 0 rfl rfl ?_ | refine H.ld 1 rfl rfl ?_ | refine H.ld 2 rfl rfl ?_ | refine H.ld 3 rfl rfl ?_ | refine H.ld 4 rfl rfl ?_ | refine H.ld 5 rfl rfl ?_ | (refine H.st 0 rfl (by simp) fun _ H=> ?_; simp only [List.nil_append,List.cons_append,List.set_cons_zero,List.set_cons_succ,Nat.zero_add] at H) | (refine H.st 1 rfl (by simp) fun _ H=> ?_; simp only [List.nil_append,List.cons_append,List.set_cons_zero,List.set_cons_succ,Nat.zero_add] at H) | (refine H.st 2 rfl (by simp) fun _ H=> ?_; simp only [List.nil_append,List.cons_append,List.set_cons_zero,List.set_cons_succ,Nat.zero_add] at H) | (refine H.st 3 rfl (by simp) fun _ H=> ?_; simp only [List.nil_append,List.cons_append,List.set_cons_zero,List.set_cons_succ,Nat.zero_add] at H) | (refine H.st 4 rfl (by simp) fun _ H=> ?_; simp only [List.nil_append,List.cons_append,List.set_cons_zero,List.set_cons_succ,Nat.zero_add] at H) | (refine H.st 5 rfl (by simp) fun _ H=> ?_; simp only [List.nil_append,List.cons_append,List.set_cons_zero,List.set_cons_succ,Nat.zero_add] at H))
 refine (r_apply (flat m) p _).mono ?_
 rintro q e w5 ⟨hq,he⟩
 have H := H.keep he
 refine H.nw fun w6 H=> ?_
 repeat (first | refine Lt.of ?_ | refine Nn.of ?_ | refine H.ld 0 rfl rfl ?_ | refine H.ld 1 rfl rfl ?_ | refine H.ld 2 rfl rfl ?_ | refine H.ld 3 rfl rfl ?_ | refine H.ld 4 rfl rfl ?_ | refine H.ld 5 rfl rfl ?_ | (refine H.st 0 rfl (by simp) fun _ H=> ?_; simp only [List.nil_append,List.cons_append,List.set_cons_zero,List.set_cons_succ,Nat.zero_add] at H) | (refine H.st 1 rfl (by simp) fun _ H=> ?_; simp only [List.nil_append,List.cons_append,List.set_cons_zero,List.set_cons_succ,Nat.zero_add] at H) | (refine H.st 2 rfl (by simp) fun _ H=> ?_; simp only [List.nil_append,List.cons_append,List.set_cons_zero,List.set_cons_succ,Nat.zero_add] at H) | (refine H.st 3 rfl (by simp) fun _ H=> ?_; simp only [List.nil_append,List.cons_append,List.set_cons_zero,List.set_cons_succ,Nat.zero_add] at H) | (refine H.st 4 rfl (by simp) fun _ H=> ?_; simp only [List.nil_append,List.cons_append,List.set_cons_zero,List.set_cons_succ,Nat.zero_add] at H) | (refine H.st 5 rfl (by simp) fun _ H=> ?_; simp only [List.nil_append,List.cons_append,List.set_cons_zero,List.set_cons_succ,Nat.zero_add] at H))
 unfold IsLen
 cases ha : applyP (flat m) p with
 | none=>
  rw [ha] at hq
  obtain ⟨rfl,rfl⟩ := Prod.mk.inj hq
  exact ⟨rfl,H.ext⟩
 | some q'=>
  rw [ha] at hq
  obtain ⟨rfl,rfl⟩ := Prod.mk.inj hq
  obtain ⟨i1,i2⟩ := applyP_in ha
  have hb := sq_bd i1 i2
  refine Br.ne (fun h=> absurd rfl h) fun _=> ?_
  repeat (first | refine Lt.of ?_ | refine Nn.of ?_ | refine H.ld 0 rfl rfl ?_ | refine H.ld 1 rfl rfl ?_ | refine H.ld 2 rfl rfl ?_ | refine H.ld 3 rfl rfl ?_ | refine H.ld 4 rfl rfl ?_ | refine H.ld 5 rfl rfl ?_ | (refine H.st 0 rfl (by simp) fun _ H=> ?_; simp only [List.nil_append,List.cons_append,List.set_cons_zero,List.set_cons_succ,Nat.zero_add] at H) | (refine H.st 1 rfl (by simp) fun _ H=> ?_; simp only [List.nil_append,List.cons_append,List.set_cons_zero,List.set_cons_succ,Nat.zero_add] at H) | (refine H.st 2 rfl (by simp) fun _ H=> ?_; simp only [List.nil_append,List.cons_append,List.set_cons_zero,List.set_cons_succ,Nat.zero_add] at H) | (refine H.st 3 rfl (by simp) fun _ H=> ?_; simp only [List.nil_append,List.cons_append,List.set_cons_zero,List.set_cons_succ,Nat.zero_add] at H) | (refine H.st 4 rfl (by simp) fun _ H=> ?_; simp only [List.nil_append,List.cons_append,List.set_cons_zero,List.set_cons_succ,Nat.zero_add] at H) | (refine H.st 5 rfl (by simp) fun _ H=> ?_; simp only [List.nil_append,List.cons_append,List.set_cons_zero,List.set_cons_succ,Nat.zero_add] at H))
  generalize hn : q.1 * q.1 + q.2 * q.2 = n
  have hn2 : 0 <= n /\ n <= 2305843009213693952 := by omega
  refine ⟨fun k st w7=> w7 = _ /\ 0 <= st.1 /\ st.1 <= st.2 /\ st.2 <= 2147483648 /\ st.1 * st.1 <= n /\ n < (st.2 + 1) * (st.2 + 1) /\ k = (st.2 - st.1).toNat,_,⟨rfl,by simp,by simp,by simp,by simp; omega,by simp; omega,rfl⟩,?_⟩
  rintro k ⟨lo,hi⟩ w7 ⟨rfl,h0,h1,h2,h3,h4,rfl⟩
  unfold S137L1
  dsimp only at h0 h1 h2 h3 h4 ⊢
  rw [i64_id (n := q.1 * q.1) (by omega),i64_id (n := q.2 * q.2) (by omega),hn,i64_id (n := n) (by omega),i64_id (n := lo + hi) (by omega),i64_id (n := lo + hi + 1) (by omega),tdiv_id (by omega),i64_id (n := (lo + hi + 1) / 2) (by omega)]
  generalize hm : (lo + hi + 1) / 2 = mid
  have hm2 : lo <= mid /\ mid <= hi /\ (lo < hi -> lo < mid) := by omega
  have hmm : 0 <= mid * mid /\ mid * mid <= 2147483648 * 2147483648 := ⟨Int.mul_nonneg (by omega) (by omega),Int.mul_le_mul (by omega) (by omega) (by omega) (by omega)⟩
  rw [i64_id (n := mid * mid) (by omega)]
  refine Br.dec (fun hlt=> Lt.of (Lt.of (Br.dec (fun h=> ?_) fun h=> ?_))) fun hlt=> ?_
  ·exact ⟨_,by omega,rfl,by omega,by omega,by omega,h,h4,rfl⟩
  ·refine Lt.of ⟨_,?_,rfl,h0,?_,?_,h3,?_,rfl⟩
   ·rw [i64_id (by omega)]; omega
   ·rw [i64_id (by omega)]; omega
   ·rw [i64_id (by omega)]; omega
   ·rw [i64_id (by omega),show mid - 1 + 1 = mid by omega]; omega
  ·have : lo = hi := by omega
   subst this
   have hr : isRoot n lo := ⟨h0,h3,h4⟩
   exact Br.dec (fun h=> ⟨⟨lo,hr,by rw [if_pos h]⟩,H.ext⟩) fun h=> ⟨⟨lo,hr,by rw [if_neg h]⟩,H.ext⟩
theorem r_one (w : World) : C22 w fun r w1=> r = one /\ Ext (fun _=> False) w w1 := by
 refine T22 _ _ ?_
 unfold S22
 refine (Hn.start w).nw fun w3 H=> ?_
 repeat (first | refine Lt.of ?_ | refine Nn.of ?_ | refine H.ld 0 rfl rfl ?_ | refine H.ld 1 rfl rfl ?_ | refine H.ld 2 rfl rfl ?_ | refine H.ld 3 rfl rfl ?_ | refine H.ld 4 rfl rfl ?_ | refine H.ld 5 rfl rfl ?_ | (refine H.st 0 rfl (by simp) fun _ H=> ?_; simp only [List.nil_append,List.cons_append,List.set_cons_zero,List.set_cons_succ,Nat.zero_add] at H) | (refine H.st 1 rfl (by simp) fun _ H=> ?_; simp only [List.nil_append,List.cons_append,List.set_cons_zero,List.set_cons_succ,Nat.zero_add] at H) | (refine H.st 2 rfl (by simp) fun _ H=> ?_; simp only [List.nil_append,List.cons_append,List.set_cons_zero,List.set_cons_succ,Nat.zero_add] at H) | (refine H.st 3 rfl (by simp) fun _ H=> ?_; simp only [List.nil_append,List.cons_append,List.set_cons_zero,List.set_cons_succ,Nat.zero_add] at H) | (refine H.st 4 rfl (by simp) fun _ H=> ?_; simp only [List.nil_append,List.cons_append,List.set_cons_zero,List.set_cons_succ,Nat.zero_add] at H) | (refine H.st 5 rfl (by simp) fun _ H=> ?_; simp only [List.nil_append,List.cons_append,List.set_cons_zero,List.set_cons_succ,Nat.zero_add] at H))
 exact ⟨rfl,H.ext⟩
theorem r_move (x y : Int) (w : World) : C20 x y w fun r w1=> r = moveM x y /\ Ext (fun _=> False) w w1 := by
 refine T20 _ _ _ _ ?_
 unfold S20
 refine (Hn.start w).nw fun w3 H=> ?_
 repeat (first | refine Lt.of ?_ | refine Nn.of ?_ | refine H.ld 0 rfl rfl ?_ | refine H.ld 1 rfl rfl ?_ | refine H.ld 2 rfl rfl ?_ | refine H.ld 3 rfl rfl ?_ | refine H.ld 4 rfl rfl ?_ | refine H.ld 5 rfl rfl ?_ | (refine H.st 0 rfl (by simp) fun _ H=> ?_; simp only [List.nil_append,List.cons_append,List.set_cons_zero,List.set_cons_succ,Nat.zero_add] at H) | (refine H.st 1 rfl (by simp) fun _ H=> ?_; simp only [List.nil_append,List.cons_append,List.set_cons_zero,List.set_cons_succ,Nat.zero_add] at H) | (refine H.st 2 rfl (by simp) fun _ H=> ?_; simp only [List.nil_append,List.cons_append,List.set_cons_zero,List.set_cons_succ,Nat.zero_add] at H) | (refine H.st 3 rfl (by simp) fun _ H=> ?_; simp only [List.nil_append,List.cons_append,List.set_cons_zero,List.set_cons_succ,Nat.zero_add] at H) | (refine H.st 4 rfl (by simp) fun _ H=> ?_; simp only [List.nil_append,List.cons_append,List.set_cons_zero,List.set_cons_succ,Nat.zero_add] at H) | (refine H.st 5 rfl (by simp) fun _ H=> ?_; simp only [List.nil_append,List.cons_append,List.set_cons_zero,List.set_cons_succ,Nat.zero_add] at H))
 exact ⟨rfl,H.ext⟩
end Mat
end Go.Proofs.YtcblpehnkogfdaaGreatDoor

/- The formulas of 5 functions of the program, written by program (gen.py); the kernel checks each. No condition. -/
namespace Go.Proofs.YtcblpehnkogfdaaGreatDoor
set_option maxRecDepth 100000
open Sh
set_option maxRecDepth 100000
def C21 (m1 : Int × Int × Int × Int × Int × Int) (w : World) (R : (Int × Int × Int × ByteArray × Slc × Slc) -> World -> Prop) : Prop :=
 Calls Tryz.prog 21 #[.agg #[.int .i64 (m1.1),.int .i64 (m1.2.1),.int .i64 (m1.2.2.1),.int .i64 (m1.2.2.2.1),.int .i64 (m1.2.2.2.2.1),.int .i64 (m1.2.2.2.2.2)]] w fun e w'=> ∃ r0 : Int × Int × Int × ByteArray × Slc × Slc,e = .returned (.agg #[.int .i64 (r0.1),.int .i64 (r0.2.1),.int .i64 (r0.2.2.1),.string r0.2.2.2.1,Slc.v r0.2.2.2.2.1,Slc.v r0.2.2.2.2.2]) /\ R r0 w'
def C84 (o1 : Int × Int × Int × ByteArray × Slc × Slc) (w : World) (R : Int -> Bool -> World -> Prop) : Prop :=
 Calls Tryz.prog 84 #[.agg #[.int .i64 (o1.1),.int .i64 (o1.2.1),.int .i64 (o1.2.2.1),.string o1.2.2.2.1,Slc.v o1.2.2.2.2.1,Slc.v o1.2.2.2.2.2]] w fun e w'=> ∃ r0 : Int,∃ r1 : Bool,e = .returned (.tuple #[.int .i64 r0,.bool r1]) /\ R r0 r1 w'
theorem C84.mono {o1 : Int × Int × Int × ByteArray × Slc × Slc} {w : World} {R R' : Int -> Bool -> World -> Prop} (h : C84 o1 w R) (hr : ∀ r0 r1 w',R r0 r1 w' -> R' r0 r1 w') : C84 o1 w R' :=
 Calls.mono h fun _ _ ⟨r0,r1,he,hR⟩=> ⟨r0,r1,he,hr _ _ _ hR⟩
def C131 (n1 : Int) (least2 : Int) (most3 : Int) (w : World) (R : Bool -> World -> Prop) : Prop :=
 Calls Tryz.prog 131 #[.int .i64 n1,.int .i64 least2,.int .i64 most3] w fun e w'=> ∃ r0 : Bool,e = .returned (.bool r0) /\ R r0 w'
theorem C131.mono {n1 : Int} {least2 : Int} {most3 : Int} {w : World} {R R' : Bool -> World -> Prop} (h : C131 n1 least2 most3 w R) (hr : ∀ r0 w',R r0 w' -> R' r0 w') : C131 n1 least2 most3 w R' :=
 Calls.mono h fun _ _ ⟨r0,he,hR⟩=> ⟨r0,he,hr _ _ hR⟩
def C114 (o1 : Int × Int × Int × ByteArray × Slc × Slc) (w : World) (R : Int -> Bool -> World -> Prop) : Prop :=
 Calls Tryz.prog 114 #[.agg #[.int .i64 (o1.1),.int .i64 (o1.2.1),.int .i64 (o1.2.2.1),.string o1.2.2.2.1,Slc.v o1.2.2.2.2.1,Slc.v o1.2.2.2.2.2]] w fun e w'=> ∃ r0 : Int,∃ r1 : Bool,e = .returned (.tuple #[.int .i64 r0,.bool r1]) /\ R r0 r1 w'
theorem C114.mono {o1 : Int × Int × Int × ByteArray × Slc × Slc} {w : World} {R R' : Int -> Bool -> World -> Prop} (h : C114 o1 w R) (hr : ∀ r0 r1 w',R r0 r1 w' -> R' r0 r1 w') : C114 o1 w R' :=
 Calls.mono h fun _ _ ⟨r0,r1,he,hR⟩=> ⟨r0,r1,he,hr _ _ _ hR⟩
def S84J1 (w : World) (R : Int -> Bool -> World -> Prop) (s7 : Unit) (z8 : World) : Prop :=
 Ld z8 ⟨w.heap.size,0,none⟩ (.int .i64) fun x9=>
 Br (x9 == 2) (Ld z8 (.add ⟨w.heap.size,0,none⟩ 1) (.int .i64) fun x10=>
  Br (decide (x10 >= (-107374))) (Ld z8 (.add ⟨w.heap.size,0,none⟩ 1) (.int .i64) fun x11=>
   Br (decide (x11 <= 107374)) (Ld z8 (.add ⟨w.heap.size,0,none⟩ 1) (.int .i64) fun x12=>
    R (IntKind.i64.wrap (10000 * x12)) true z8) (R 0 false z8)) (R 0 false z8)) (R 0 false z8)
def S84 (o1 : Int × Int × Int × ByteArray × Slc × Slc) (w : World) (R : Int -> Bool -> World -> Prop) : Prop :=
 Nw w (.cells #[.int .i64 (o1.1),.int .i64 (o1.2.1),.int .i64 (o1.2.2.1),.string o1.2.2.2.1,Slc.v o1.2.2.2.2.1,Slc.v o1.2.2.2.2.2] 61) fun z2=>
 Join (S84J1 w R) fun (vJ13 : Unit -> World -> Prop)=>
  Ld z2 ⟨w.heap.size,0,none⟩ (.int .i64) fun x14=>
  Br (x14 == 3) (Ld z2 (.add ⟨w.heap.size,0,none⟩ 1) (.int .i64) fun x15=>
   Br (decide (x15 >= (-1073741824))) (Ld z2 (.add ⟨w.heap.size,0,none⟩ 1) (.int .i64) fun x16=>
    Br (decide (x16 <= 1073741824)) (Ld z2 (.add ⟨w.heap.size,0,none⟩ 1) (.int .i64) fun x17=>
     R x17 true z2) (vJ13 () z2)) (vJ13 () z2)) (vJ13 () z2)
def pl84 : Plan := (.q (.join [] [1] (.q (.cond (.q .leaf) .leaf)) (.seq (.q (.cond (.q .leaf) .leaf)) (.q .leaf))))
theorem T84 (o1 : Int × Int × Int × ByteArray × Slc × Slc) (w : World) (R : Int -> Bool -> World -> Prop) (h : S84 o1 w R) : C84 (o1.1,o1.2.1,o1.2.2.1,o1.2.2.2.1,o1.2.2.2.2.1,o1.2.2.2.2.2) w R := by
 have e : fnT Tryz.prog ⟨FF,MAY,(fun _ _=> False)⟩ pl84 Tryz.f84 [.agg #[.int .i64 (o1.1),.int .i64 (o1.2.1),.int .i64 (o1.2.2.1),.string o1.2.2.2.1,Slc.v o1.2.2.2.2.1,Slc.v o1.2.2.2.2.2]] w [(.one (.int .i64)),(.one .bool)] (fun s w=> R s.1 s.2 w) = S84 o1 w R := by kernel_rfl
 exact (fn_calls okF okM Tryz.func84 (by kernel_rfl) (by kernel_rfl) (e.mpr h)).mono fun _ _ ⟨s,he,hR⟩=> ⟨s.1,s.2,he,hR⟩
def S131 (n1 : Int) (least2 : Int) (most3 : Int) (w : World) (R : Bool -> World -> Prop) : Prop :=
 Br (decide (least2 <= n1)) (R (decide (n1 <= most3)) w) (R false w)
def pl131 : Plan := (.q (.q .leaf))
theorem T131 (n1 : Int) (least2 : Int) (most3 : Int) (w : World) (R : Bool -> World -> Prop) (h : S131 n1 least2 most3 w R) : C131 n1 least2 most3 w R := by
 have e : fnT Tryz.prog ⟨FF,MAY,(fun _ _=> False)⟩ pl131 Tryz.f131 [.int .i64 n1,.int .i64 least2,.int .i64 most3] w [(.one .bool)] (fun s w=> R s w) = S131 n1 least2 most3 w R := by kernel_rfl
 exact (fn_calls okF okM Tryz.func131 (by kernel_rfl) (by kernel_rfl) (e.mpr h)).mono fun _ _ ⟨s,he,hR⟩=> ⟨s,he,hR⟩
def S114 (o1 : Int × Int × Int × ByteArray × Slc × Slc) (w : World) (R : Int -> Bool -> World -> Prop) : Prop :=
 Nw w (.cells #[.int .i64 (o1.1),.int .i64 (o1.2.1),.int .i64 (o1.2.2.1),.string o1.2.2.2.1,Slc.v o1.2.2.2.2.1,Slc.v o1.2.2.2.2.2] 61) fun z2=>
 Ld z2 (.add ⟨w.heap.size,0,none⟩ 1) (.int .i64) fun x3=>
 Ld z2 ⟨w.heap.size,0,none⟩ (.int .i64) fun x7=>
 Br (x7 == 2) (C131 x3 (-107374) 107374 z2 fun r8 z9=>
   Br (!r8) (R 0 false z9) (C131 (IntKind.i64.wrap (x3 * 10000)) (-1073741824) 1073741824 z9 fun r10 z11=>
     Br (!r10) (R 0 false z11) (R (IntKind.i64.wrap (x3 * 10000)) true z11))) (Br (x7 == 3) (C131 x3 (-1073741824) 1073741824 z2 fun r12 z13=>
    Br (!r12) (R 0 false z13) (R x3 true z13)) (R 0 false z2))
def pl114 : Plan := (.q (.q (.seq (.q (.block (.q (.cond (.seq (.q (.cond (.q .leaf) .leaf)) (.reg .seq)) (.q (.cond .leaf (.q .leaf))))))) (.seq (.q (.cond (.q .leaf) .leaf)) (.q .leaf)))))
theorem T114 (o1 : Int × Int × Int × ByteArray × Slc × Slc) (w : World) (R : Int -> Bool -> World -> Prop) (h : S114 o1 w R) : C114 (o1.1,o1.2.1,o1.2.2.1,o1.2.2.2.1,o1.2.2.2.2.1,o1.2.2.2.2.2) w R := by
 have e : fnT Tryz.prog ⟨FF,MAY,(fun _ _=> False)⟩ pl114 Tryz.f114 [.agg #[.int .i64 (o1.1),.int .i64 (o1.2.1),.int .i64 (o1.2.2.1),.string o1.2.2.2.1,Slc.v o1.2.2.2.2.1,Slc.v o1.2.2.2.2.2]] w [(.one (.int .i64)),(.one .bool)] (fun s w=> R s.1 s.2 w) = S114 o1 w R := by kernel_rfl
 exact (fn_calls okF okM Tryz.func114 (by kernel_rfl) (by kernel_rfl) (e.mpr h)).mono fun _ _ ⟨s,he,hR⟩=> ⟨s.1,s.2,he,hR⟩
end Go.Proofs.YtcblpehnkogfdaaGreatDoor

/- Objects: rows of them, numbers among them, copies of an array of numbers. Conditions: sizes. -/
namespace Go.Proofs.YtcblpehnkogfdaaGreatDoor
namespace Mat
open Sh Fix
set_option maxRecDepth 4000
set_option maxHeartbeats 1000000
abbrev Ob := Int × Int × Int × ByteArray × Slc × Slc
abbrev nilS : Slc := ⟨none,0,0⟩
def obrow (o : Ob) : List Value := [.int .i64 o.1,.int .i64 o.2.1,.int .i64 o.2.2.1,.string o.2.2.2.1,Slc.v o.2.2.2.2.1,Slc.v o.2.2.2.2.2]
def ob0 : Ob := (0,0,0,⟨#[]⟩,nilS,nilS)
theorem elOb : El Tryz.prog 46 61 6 88 (.agg (obrow ob0).toArray) := ⟨by kernel_rfl,by kernel_rfl,by kernel_rfl,by kernel_rfl,rfl⟩
theorem ob_one (o : Ob) : ∀ v ∈ obrow o,v.oneCell' = true := by
 intro v hv
 simp only [obrow,List.mem_cons,List.not_mem_nil,or_false] at hv
 rcases hv with rfl | rfl | rfl | rfl | rfl | rfl <;> rfl
theorem obs_len (L : List Ob) : (L.flatMap obrow).length = L.length * 6 := by
 induction L with
 | nil=> rfl
 | cons o L ih=> rw [List.flatMap_cons,List.length_append,ih,List.length_cons]; simp [obrow]; omega
theorem obs_get {L : List Ob} {i j : Nat} {o : Ob} (hi : L[i]? = some o) (hj : j < 6) : (L.flatMap obrow)[i * 6 + j]? = (obrow o)[j]? := by
 induction L generalizing i with
 | nil=> cases hi
 | cons p L ih=>
  rw [List.flatMap_cons]
  cases i with
  | zero=>
   cases hi
   rw [Nat.zero_mul,Nat.zero_add,List.getElem?_append_left (by simp [obrow]; omega)]
  | succ i=>
   rw [List.getElem?_append_right (by simp [obrow]; omega),<- ih (by simpa using hi)]
   congr 1
   simp only [obrow,List.length_cons,List.length_nil]
   omega
def OV (w : World) (s : Slc) (L : List Ob) : Prop := s.len = L.length /\ VRow w s 6 (L.flatMap obrow)
abbrev rowS (g n : Nat) : Slc := ⟨some ⟨g,0,none⟩,n,n⟩
theorem OV.of {w : World} {g : Nat} {L : List Ob} {t : TypeId} (h : Blk w g (L.flatMap obrow).toArray t) : OV w (rowS g L.length) L := ⟨rfl,VRow.of h (obs_len L)⟩
theorem OV.keep {w w' : World} {s : Slc} {L : List Ob} (h : OV w s L) (he : Ext (fun _=> False) w w') : OV w' s L := ⟨h.1,h.2.keep he⟩
theorem OV.get {w : World} {s : Slc} {L : List Ob} (h : OV w s L) {i : Nat} {o : Ob} (hi : L[i]? = some o) : ∃ a,s.p = some a /\ w.cell? (a.add (i * 6)) = some (.int .i64 o.1) /\ w.cell? ((a.add (i * 6)).add 1) = some (.int .i64 o.2.1) /\ w.cell? ((a.add (i * 6)).add 2) = some (.int .i64 o.2.2.1) /\
  w.cell? ((a.add (i * 6)).add 3) = some (.string o.2.2.2.1) /\ w.cell? ((a.add (i * 6)).add 4) = some (Slc.v o.2.2.2.2.1) /\ w.cell? ((a.add (i * 6)).add 5) = some (Slc.v o.2.2.2.2.2) := by
 have g : ∀ j v,j < 6 -> (obrow o)[j]? = some v -> ∃ a,s.p = some a /\ w.cell? ((a.add (i * 6)).add j) = some v := fun j v hj hv=> by
  obtain ⟨a,ha,hc⟩ := h.2.2 (i * 6 + j) v (by rw [obs_get hi hj]; exact hv)
  exact ⟨a,ha,by rw [add_add']; exact hc⟩
 obtain ⟨a,ha,c0⟩ := g 0 _ (by omega) rfl
 obtain ⟨a1,ha1,c1⟩ := g 1 _ (by omega) rfl
 obtain ⟨a2,ha2,c2⟩ := g 2 _ (by omega) rfl
 obtain ⟨a3,ha3,c3⟩ := g 3 _ (by omega) rfl
 obtain ⟨a4,ha4,c4⟩ := g 4 _ (by omega) rfl
 obtain ⟨a5,ha5,c5⟩ := g 5 _ (by omega) rfl
 rw [ha] at ha1 ha2 ha3 ha4 ha5
 cases ha1; cases ha2; cases ha3; cases ha4; cases ha5
 exact ⟨a,ha,by rw [add_add'] at c0; exact c0,c1,c2,c3,c4,c5⟩
def numV (o : Ob) : Option Int := if o.1 = 2 then (if -107374 <= o.2.1 /\ o.2.1 <= 107374 then some (o.2.1 * 10000) else none) else if o.1 = 3 then (if inW o.2.1 = true then some o.2.1 else none) else none
def resN : Option Int -> Int × Bool
 | some n=> (n,true)
 | none=> (0,false)
attribute [local irreducible] Ld St Nw Nn Lt LdS
theorem c_within2 (n a b : Int) (w : World) : C131 n a b w fun r w1=> r = decide (a <= n /\ n <= b) /\ w1 = w := by
 refine T131 _ _ _ _ _ ?_
 unfold S131
 refine Br.dec (fun h=> ⟨decide_eq_decide.2 (by omega),rfl⟩) fun h=> ⟨(decide_eq_false (by omega)).symm,rfl⟩
theorem c_number (o : Ob) (w : World) : C114 o w fun r b w1=> (r,b) = resN (numV o) /\ Ext (fun _=> False) w w1 := by
 refine T114 _ _ _ ?_
 unfold S114
 refine (Hn.start w).nw fun w2 H=> ?_
 repeat (first | refine H.ld 0 rfl rfl ?_ | refine H.ld 1 rfl rfl ?_ | refine H.ld 2 rfl rfl ?_ | refine H.ld 3 rfl rfl ?_ | refine H.ld 4 rfl rfl ?_ | refine H.ld 5 rfl rfl ?_)
 unfold numV
 refine Br.eq (fun h=> (c_within2 _ _ _ _).mono ?_) fun h=> Br.eq (fun h2=> (c_within2 _ _ _ _).mono ?_) fun h2=> ?_
 ·rintro r _ ⟨rfl,rfl⟩
  rw [if_pos h]
  by_cases hb : -107374 <= o.2.1 /\ o.2.1 <= 107374
  ·rw [if_pos hb,decide_eq_true hb]
   refine Br_of (fun h=> by cases h) fun _=> (c_within2 _ _ _ _).mono ?_
   rintro r _ ⟨rfl,rfl⟩
   rw [i64_id (by omega),decide_eq_true (by omega)]
   exact Br_of (fun h=> by cases h) fun _=> ⟨rfl,H.ext⟩
  ·rw [if_neg hb,decide_eq_false hb]
   exact Br_of (fun _=> ⟨rfl,H.ext⟩) fun h=> by cases h
 ·rintro r _ ⟨rfl,rfl⟩
  rw [if_neg h,if_pos h2]
  show Br (!inW o.2.1) _ _
  cases inW o.2.1 with
  | true=> exact Br_of (fun h=> by cases h) fun _=> ⟨rfl,H.ext⟩
  | false=> exact Br_of (fun _=> ⟨rfl,H.ext⟩) fun h=> by cases h
 ·rw [if_neg h,if_neg h2]
  exact ⟨rfl,H.ext⟩
theorem r_number (o : Ob) (w : World) : C84 o w fun r b w1=> (r,b) = resN (numV o) /\ Ext (fun _=> False) w w1 := by
 refine T84 _ _ _ ?_
 unfold S84
 refine (Hn.start w).nw fun w2 H=> ?_
 refine ⟨fun _ w3=> w3 = w2 /\ ¬ (o.1 = 3 /\ inW o.2.1 = true),?_,?_⟩
 case refine_2=>
  repeat (first | refine H.ld 0 rfl rfl ?_ | refine H.ld 1 rfl rfl ?_ | refine H.ld 2 rfl rfl ?_ | refine H.ld 3 rfl rfl ?_ | refine H.ld 4 rfl rfl ?_ | refine H.ld 5 rfl rfl ?_)
  refine Br.eq (fun h=> ?_) fun h=> ⟨rfl,fun h2=> h h2.1⟩
  repeat (first | refine H.ld 0 rfl rfl ?_ | refine H.ld 1 rfl rfl ?_ | refine H.ld 2 rfl rfl ?_ | refine H.ld 3 rfl rfl ?_ | refine H.ld 4 rfl rfl ?_ | refine H.ld 5 rfl rfl ?_)
  refine Br.dec (fun h2=> ?_) fun h2=> ⟨rfl,fun h3=> by have := inW_spec.1 h3.2; omega⟩
  repeat (first | refine H.ld 0 rfl rfl ?_ | refine H.ld 1 rfl rfl ?_ | refine H.ld 2 rfl rfl ?_ | refine H.ld 3 rfl rfl ?_ | refine H.ld 4 rfl rfl ?_ | refine H.ld 5 rfl rfl ?_)
  refine Br.dec (fun h3=> ?_) fun h3=> ⟨rfl,fun h4=> by have := inW_spec.1 h4.2; omega⟩
  repeat (first | refine H.ld 0 rfl rfl ?_ | refine H.ld 1 rfl rfl ?_ | refine H.ld 2 rfl rfl ?_ | refine H.ld 3 rfl rfl ?_ | refine H.ld 4 rfl rfl ?_ | refine H.ld 5 rfl rfl ?_)
  refine ⟨?_,H.ext⟩
  unfold numV
  rw [if_neg (by omega),if_pos h,if_pos (inW_spec.2 (by omega))]
  rfl
 rintro _ w3 ⟨rfl,hn⟩
 unfold S84J1
 have h3 : o.1 ≠ 2 -> numV o = none := fun h=> by
  unfold numV
  rw [if_neg h]
  split
  ·rename_i h4
   exact if_neg fun h5=> hn ⟨h4,h5⟩
  ·rfl
 repeat (first | refine H.ld 0 rfl rfl ?_ | refine H.ld 1 rfl rfl ?_ | refine H.ld 2 rfl rfl ?_ | refine H.ld 3 rfl rfl ?_ | refine H.ld 4 rfl rfl ?_ | refine H.ld 5 rfl rfl ?_)
 refine Br.eq (fun h=> ?_) fun h=> ⟨by rw [h3 h]; rfl,H.ext⟩
 have hno : ¬ (-107374 <= o.2.1 /\ o.2.1 <= 107374) -> ((0,false) : Int × Bool) = resN (numV o) := fun hb=> by
  unfold numV
  rw [if_pos h,if_neg hb]
  rfl
 repeat (first | refine H.ld 0 rfl rfl ?_ | refine H.ld 1 rfl rfl ?_ | refine H.ld 2 rfl rfl ?_ | refine H.ld 3 rfl rfl ?_ | refine H.ld 4 rfl rfl ?_ | refine H.ld 5 rfl rfl ?_)
 refine Br.dec (fun h2=> ?_) fun h2=> ⟨hno (by omega),H.ext⟩
 repeat (first | refine H.ld 0 rfl rfl ?_ | refine H.ld 1 rfl rfl ?_ | refine H.ld 2 rfl rfl ?_ | refine H.ld 3 rfl rfl ?_ | refine H.ld 4 rfl rfl ?_ | refine H.ld 5 rfl rfl ?_)
 refine Br.dec (fun h3=> ?_) fun h3=> ⟨hno (by omega),H.ext⟩
 repeat (first | refine H.ld 0 rfl rfl ?_ | refine H.ld 1 rfl rfl ?_ | refine H.ld 2 rfl rfl ?_ | refine H.ld 3 rfl rfl ?_ | refine H.ld 4 rfl rfl ?_ | refine H.ld 5 rfl rfl ?_)
 refine ⟨?_,H.ext⟩
 unfold numV
 rw [if_pos h,if_pos (by omega),i64_id (by omega),Int.mul_comm]
 rfl
def leaf (o : Ob) : Prop := o.2.2.2.2.1 = nilS /\ o.2.2.2.2.2 = nilS
end Mat
end Go.Proofs.YtcblpehnkogfdaaGreatDoor

/- The formulas of 9 functions of the program, written by program (gen.py); the kernel checks each. No condition. -/
namespace Go.Proofs.YtcblpehnkogfdaaGreatDoor
set_option maxRecDepth 100000
open Sh
set_option maxRecDepth 100000
def C112 (s1 : Slc) (v2 : ByteArray) (w : World) (R : Int -> World -> Prop) : Prop :=
 Calls Tryz.prog 112 #[Slc.v s1,.string v2] w fun e w'=> ∃ r0 : Int,e = .returned (.int .i64 r0) /\ R r0 w'
theorem C112.mono {s1 : Slc} {v2 : ByteArray} {w : World} {R R' : Int -> World -> Prop} (h : C112 s1 v2 w R) (hr : ∀ r0 w',R r0 w' -> R' r0 w') : C112 s1 v2 w R' :=
 Calls.mono h fun _ _ ⟨r0,he,hR⟩=> ⟨r0,he,hr _ _ hR⟩
def C72 (s1 : Slc) (v2 : ByteArray) (w : World) (R : Bool -> World -> Prop) : Prop :=
 Calls Tryz.prog 72 #[Slc.v s1,.string v2] w fun e w'=> ∃ r0 : Bool,e = .returned (.bool r0) /\ R r0 w'
theorem C72.mono {s1 : Slc} {v2 : ByteArray} {w : World} {R R' : Bool -> World -> Prop} (h : C72 s1 v2 w R) (hr : ∀ r0 w',R r0 w' -> R' r0 w') : C72 s1 v2 w R' :=
 Calls.mono h fun _ _ ⟨r0,he,hR⟩=> ⟨r0,he,hr _ _ hR⟩
def C73 (name1 : ByteArray) (w : World) (R : ByteArray -> World -> Prop) : Prop :=
 Calls Tryz.prog 73 #[.string name1] w fun e w'=> ∃ r0 : ByteArray,e = .returned (.string r0) /\ R r0 w'
theorem C73.mono {name1 : ByteArray} {w : World} {R R' : ByteArray -> World -> Prop} (h : C73 name1 w R) (hr : ∀ r0 w',R r0 w' -> R' r0 w') : C73 name1 w R' :=
 Calls.mono h fun _ _ ⟨r0,he,hR⟩=> ⟨r0,he,hr _ _ hR⟩
def C74 (letter1 : Int) (kind2 : Int) (w : World) (R : Bool -> World -> Prop) : Prop :=
 Calls Tryz.prog 74 #[.int .i32 letter1,.int .i64 kind2] w fun e w'=> ∃ r0 : Bool,e = .returned (.bool r0) /\ R r0 w'
theorem C74.mono {letter1 : Int} {kind2 : Int} {w : World} {R R' : Bool -> World -> Prop} (h : C74 letter1 kind2 w R) (hr : ∀ r0 w',R r0 w' -> R' r0 w') : C74 letter1 kind2 w R' :=
 Calls.mono h fun _ _ ⟨r0,he,hR⟩=> ⟨r0,he,hr _ _ hR⟩
def C42 (o1 : ByteArray × Slc × ByteArray) (w : World) (R : Int -> World -> Prop) : Prop :=
 Calls Tryz.prog 42 #[.agg #[.string o1.1,Slc.v o1.2.1,.string o1.2.2]] w fun e w'=> ∃ r0 : Int,e = .returned (.int .i64 r0) /\ R r0 w'
theorem C42.mono {o1 : ByteArray × Slc × ByteArray} {w : World} {R R' : Int -> World -> Prop} (h : C42 o1 w R) (hr : ∀ r0 w',R r0 w' -> R' r0 w') : C42 o1 w R' :=
 Calls.mono h fun _ _ ⟨r0,he,hR⟩=> ⟨r0,he,hr _ _ hR⟩
def C76 (o1 : ByteArray × Slc × ByteArray) (w : World) (R : Slc -> Int -> World -> Prop) : Prop :=
 Calls Tryz.prog 76 #[.agg #[.string o1.1,Slc.v o1.2.1,.string o1.2.2]] w fun e w'=> ∃ r0 : Slc,∃ r1 : Int,e = .returned (.tuple #[Slc.v r0,.int .i64 r1]) /\ R r0 r1 w'
theorem C76.mono {o1 : ByteArray × Slc × ByteArray} {w : World} {R R' : Slc -> Int -> World -> Prop} (h : C76 o1 w R) (hr : ∀ r0 r1 w',R r0 r1 w' -> R' r0 r1 w') : C76 o1 w R' :=
 Calls.mono h fun _ _ ⟨r0,r1,he,hR⟩=> ⟨r0,r1,he,hr _ _ _ hR⟩
def C82 (name1 : ByteArray) (w : World) (R : ByteArray -> World -> Prop) : Prop :=
 Calls Tryz.prog 82 #[.string name1] w fun e w'=> ∃ r0 : ByteArray,e = .returned (.string r0) /\ R r0 w'
theorem C82.mono {name1 : ByteArray} {w : World} {R R' : ByteArray -> World -> Prop} (h : C82 name1 w R) (hr : ∀ r0 w',R r0 w' -> R' r0 w') : C82 name1 w R' :=
 Calls.mono h fun _ _ ⟨r0,he,hR⟩=> ⟨r0,he,hr _ _ hR⟩
def C83 (o1 : Int × Int × Int × ByteArray × Slc × Slc) (c2 : Int) (w : World) (R : Bool -> World -> Prop) : Prop :=
 Calls Tryz.prog 83 #[.agg #[.int .i64 (o1.1),.int .i64 (o1.2.1),.int .i64 (o1.2.2.1),.string o1.2.2.2.1,Slc.v o1.2.2.2.2.1,Slc.v o1.2.2.2.2.2],.int .u8 c2] w fun e w'=> ∃ r0 : Bool,e = .returned (.bool r0) /\ R r0 w'
theorem C83.mono {o1 : Int × Int × Int × ByteArray × Slc × Slc} {c2 : Int} {w : World} {R R' : Bool -> World -> Prop} (h : C83 o1 c2 w R) (hr : ∀ r0 w',R r0 w' -> R' r0 w') : C83 o1 c2 w R' :=
 Calls.mono h fun _ _ ⟨r0,he,hR⟩=> ⟨r0,he,hr _ _ hR⟩
def C46 (o1 : ByteArray × Slc × ByteArray) (w : World) (R : Int -> World -> Prop) : Prop :=
 Calls Tryz.prog 46 #[.agg #[.string o1.1,Slc.v o1.2.1,.string o1.2.2]] w fun e w'=> ∃ r0 : Int,e = .returned (.int .i64 r0) /\ R r0 w'
theorem C46.mono {o1 : ByteArray × Slc × ByteArray} {w : World} {R R' : Int -> World -> Prop} (h : C46 o1 w R) (hr : ∀ r0 w',R r0 w' -> R' r0 w') : C46 o1 w R' :=
 Calls.mono h fun _ _ ⟨r0,he,hR⟩=> ⟨r0,he,hr _ _ hR⟩
def S112L1 (s1 : Slc) (v2 : ByteArray) (R : Int -> World -> Prop) (I5 : Int -> World -> Prop) (s3 : Int) (z4 : World) : Prop :=
 Br (decide (s3 < ((s1.len : Nat) : Int))) (0 <= s3 /\ s3 < (s1.len : Nat) /\ Nn s1.p fun a6=>
  Ld z4 (a6.add ((s3).toNat * 1)) .string fun x7=>
  Br (v2.toList == x7.toList) (R s3 z4) (I5 (IntKind.i64.wrap (s3 + 1)) z4)) (R (-1) z4)
def S112 (s1 : Slc) (v2 : ByteArray) (w : World) (R : Int -> World -> Prop) : Prop :=
 Lp (σ := Int) (S112L1 s1 v2 R) 0 w
def pl112 : Plan := (.q (.seq (.q (.block (.loop [(8,(.one (.int .i64)))] [0,1,7] (.q (.seq (.cond .leaf .leaf) (.seq (.block (.q (.q (.cond (.q .leaf) .leaf)))) (.reg .seq))))))) (.q .leaf)))
theorem T112 (s1 : Slc) (v2 : ByteArray) (w : World) (R : Int -> World -> Prop) (h : S112 s1 v2 w R) : C112 s1 v2 w R := by
 have e : fnT Tryz.prog ⟨FF,MAY,(fun _ _=> False)⟩ pl112 Tryz.f112 [Slc.v s1,.string v2] w [(.one (.int .i64))] (fun s w=> R s w) = S112 s1 v2 w R := by kernel_rfl
 exact (fn_calls okF okM Tryz.func112 (by kernel_rfl) (by kernel_rfl) (e.mpr h)).mono fun _ _ ⟨s,he,hR⟩=> ⟨s,he,hR⟩
def S72 (s1 : Slc) (v2 : ByteArray) (w : World) (R : Bool -> World -> Prop) : Prop :=
 C112 s1 v2 w fun r3 z4=>
  R (decide (r3 >= 0)) z4
def pl72 : Plan := (.q (.q .leaf))
theorem T72 (s1 : Slc) (v2 : ByteArray) (w : World) (R : Bool -> World -> Prop) (h : S72 s1 v2 w R) : C72 s1 v2 w R := by
 have e : fnT Tryz.prog ⟨FF,MAY,(fun _ _=> False)⟩ pl72 Tryz.f72 [Slc.v s1,.string v2] w [(.one .bool)] (fun s w=> R s w) = S72 s1 v2 w R := by kernel_rfl
 exact (fn_calls okF okM Tryz.func72 (by kernel_rfl) (by kernel_rfl) (e.mpr h)).mono fun _ _ ⟨s,he,hR⟩=> ⟨s,he,hR⟩
def S73L1 (name1 : ByteArray) (x31 : ByteArray) (x32 : ByteArray) (x33 : ByteArray) (x34 : ByteArray) (x35 : ByteArray) (x36 : ByteArray) (x37 : ByteArray) (x38 : ByteArray) (x39 : ByteArray) (x40 : ByteArray) (x41 : ByteArray) (x42 : ByteArray) (x43 : ByteArray) (x44 : ByteArray) (x45 : ByteArray) (x46 : ByteArray) (x47 : ByteArray) (x48 : ByteArray) (x49 : ByteArray) (x50 : ByteArray) (x51 : ByteArray) (x52 : ByteArray) (x53 : ByteArray) (x54 : ByteArray) (x55 : ByteArray) (x56 : ByteArray) (x57 : ByteArray) (x58 : ByteArray) (R : ByteArray -> World -> Prop) (I61 : Int -> World -> Prop) (s59 : Int) (z60 : World) : Prop :=
 Br (decide (s59 < 14)) (0 <= s59 /\ s59 < (14 : Nat) /\ ∃ x62 : ByteArray × ByteArray,(#[.string x31,.string x32,.string x33,.string x34,.string x35,.string x36,.string x37,.string x38,.string x39,.string x40,.string x41,.string x42,.string x43,.string x44,.string x45,.string x46,.string x47,.string x48,.string x49,.string x50,.string x51,.string x52,.string x53,.string x54,.string x55,.string x56,.string x57,.string x58] : Array Value).extract ((s59).toNat * 2) ((s59).toNat * 2 + 2) = #[.string x62.1,.string x62.2] /\ Nw z60 (.cells #[.string (⟨#[]⟩ : ByteArray),.string (⟨#[]⟩ : ByteArray)] 152) fun z63=>
  St z63 ⟨z60.heap.size,0,none⟩ (.string x62.1) fun z64=>
  St z64 (.add ⟨z60.heap.size,0,none⟩ 1) (.string x62.2) fun z65=>
  Ld z65 (.add ⟨z60.heap.size,0,none⟩ 1) .string fun x66=>
  C113 x66 z65 fun r67 z68=>
   C72 r67 name1 z68 fun r69 z70=>
    Br r69 (Ld z70 ⟨z60.heap.size,0,none⟩ .string fun x71=>
     R x71 z70) (I61 (IntKind.i64.wrap (s59 + 1)) z70)) (R (⟨#[63]⟩ : ByteArray) z60)
def S73 (name1 : ByteArray) (w : World) (R : ByteArray -> World -> Prop) : Prop :=
 Nw w (.cells #[.string (⟨#[]⟩ : ByteArray),.string (⟨#[]⟩ : ByteArray),.string (⟨#[]⟩ : ByteArray),.string (⟨#[]⟩ : ByteArray),.string (⟨#[]⟩ : ByteArray),.string (⟨#[]⟩ : ByteArray),.string (⟨#[]⟩ : ByteArray),.string (⟨#[]⟩ : ByteArray),.string (⟨#[]⟩ : ByteArray),.string (⟨#[]⟩ : ByteArray),.string (⟨#[]⟩ : ByteArray),.string (⟨#[]⟩ : ByteArray),.string (⟨#[]⟩ : ByteArray),.string (⟨#[]⟩ : ByteArray),.string (⟨#[]⟩ : ByteArray),.string (⟨#[]⟩ : ByteArray),.string (⟨#[]⟩ : ByteArray),.string (⟨#[]⟩ : ByteArray),.string (⟨#[]⟩ : ByteArray),.string (⟨#[]⟩ : ByteArray),.string (⟨#[]⟩ : ByteArray),.string (⟨#[]⟩ : ByteArray),.string (⟨#[]⟩ : ByteArray),.string (⟨#[]⟩ : ByteArray),.string (⟨#[]⟩ : ByteArray),.string (⟨#[]⟩ : ByteArray),.string (⟨#[]⟩ : ByteArray),.string (⟨#[]⟩ : ByteArray)] 153) fun z2=>
 St z2 ⟨w.heap.size,0,none⟩ (.string (⟨#[]⟩ : ByteArray)) fun z3=>
 St z3 (.add ⟨w.heap.size,0,none⟩ 1) (.string ((⟨#[98,32,66,32,98,42,32,66,42,32,66,84,32,69,84,32,69,77,67,32,66,88,32,69,88,32,102,32,70,32,102,42,32,104,32,110,32,113,32,81,32,115,32,83,32,84,42,32,87,32,87,42]⟩ : ByteArray))) fun z4=>
 St z4 (.add ⟨w.heap.size,0,none⟩ 2) (.string ((⟨#[110]⟩ : ByteArray))) fun z5=>
 St z5 (.add ⟨w.heap.size,0,none⟩ 3) (.string ((⟨#[103,32,71,32,105,32,106,32,74,32,77,32,119,32,84,99,32,84,76,32,84,114,32,84,115,32,84,119,32,84,122]⟩ : ByteArray))) fun z6=>
 St z6 (.add ⟨w.heap.size,0,none⟩ 4) (.string ((⟨#[110,110]⟩ : ByteArray))) fun z7=>
 St z7 (.add ⟨w.heap.size,0,none⟩ 5) (.string ((⟨#[100,48,32,108,32,109,32,84,100,32,84,68]⟩ : ByteArray))) fun z8=>
 St z8 (.add ⟨w.heap.size,0,none⟩ 6) (.string ((⟨#[110,110,110]⟩ : ByteArray))) fun z9=>
 St z9 (.add ⟨w.heap.size,0,none⟩ 7) (.string ((⟨#[114,103,32,82,71]⟩ : ByteArray))) fun z10=>
 St z10 (.add ⟨w.heap.size,0,none⟩ 8) (.string ((⟨#[110,110,110,110]⟩ : ByteArray))) fun z11=>
 St z11 (.add ⟨w.heap.size,0,none⟩ 9) (.string ((⟨#[107,32,75,32,114,101,32,118,32,121]⟩ : ByteArray))) fun z12=>
 St z12 (.add ⟨w.heap.size,0,none⟩ 10) (.string ((⟨#[110,110,110,110,110,110]⟩ : ByteArray))) fun z13=>
 St z13 (.add ⟨w.heap.size,0,none⟩ 11) (.string ((⟨#[99,32,99,109,32,100,49,32,84,109]⟩ : ByteArray))) fun z14=>
 St z14 (.add ⟨w.heap.size,0,none⟩ 12) (.string ((⟨#[78]⟩ : ByteArray))) fun z15=>
 St z15 (.add ⟨w.heap.size,0,none⟩ 13) (.string ((⟨#[66,77,67,32,99,115,32,67,83,32,68,111,32,103,115,32,77,80,32,114,105,32,115,104]⟩ : ByteArray))) fun z16=>
 St z16 (.add ⟨w.heap.size,0,none⟩ 14) (.string ((⟨#[78,110]⟩ : ByteArray))) fun z17=>
 St z17 (.add ⟨w.heap.size,0,none⟩ 15) (.string ((⟨#[84,102]⟩ : ByteArray))) fun z18=>
 St z18 (.add ⟨w.heap.size,0,none⟩ 16) (.string ((⟨#[78,42]⟩ : ByteArray))) fun z19=>
 St z19 (.add ⟨w.heap.size,0,none⟩ 17) (.string ((⟨#[66,68,67,32,68,80]⟩ : ByteArray))) fun z20=>
 St z20 (.add ⟨w.heap.size,0,none⟩ 18) (.string ((⟨#[115]⟩ : ByteArray))) fun z21=>
 St z21 (.add ⟨w.heap.size,0,none⟩ 19) (.string ((⟨#[84,106,32,39]⟩ : ByteArray))) fun z22=>
 St z22 (.add ⟨w.heap.size,0,none⟩ 20) (.string ((⟨#[110,110,115]⟩ : ByteArray))) fun z23=>
 St z23 (.add ⟨w.heap.size,0,none⟩ 21) (.string ((⟨#[34]⟩ : ByteArray))) fun z24=>
 St z24 (.add ⟨w.heap.size,0,none⟩ 22) (.string ((⟨#[97]⟩ : ByteArray))) fun z25=>
 St z25 (.add ⟨w.heap.size,0,none⟩ 23) (.string ((⟨#[84,74]⟩ : ByteArray))) fun z26=>
 St z26 (.add ⟨w.heap.size,0,none⟩ 24) (.string ((⟨#[97,110]⟩ : ByteArray))) fun z27=>
 St z27 (.add ⟨w.heap.size,0,none⟩ 25) (.string ((⟨#[100]⟩ : ByteArray))) fun z28=>
 St z28 (.add ⟨w.heap.size,0,none⟩ 26) (.string ((⟨#[100]⟩ : ByteArray))) fun z29=>
 St z29 (.add ⟨w.heap.size,0,none⟩ 27) (.string ((⟨#[66,73]⟩ : ByteArray))) fun z30=>
 Ld z30 ⟨w.heap.size,0,none⟩ .string fun x31=>
 Ld z30 (.add ⟨w.heap.size,0,none⟩ 1) .string fun x32=>
 Ld z30 (.add ⟨w.heap.size,0,none⟩ 2) .string fun x33=>
 Ld z30 (.add ⟨w.heap.size,0,none⟩ 3) .string fun x34=>
 Ld z30 (.add ⟨w.heap.size,0,none⟩ 4) .string fun x35=>
 Ld z30 (.add ⟨w.heap.size,0,none⟩ 5) .string fun x36=>
 Ld z30 (.add ⟨w.heap.size,0,none⟩ 6) .string fun x37=>
 Ld z30 (.add ⟨w.heap.size,0,none⟩ 7) .string fun x38=>
 Ld z30 (.add ⟨w.heap.size,0,none⟩ 8) .string fun x39=>
 Ld z30 (.add ⟨w.heap.size,0,none⟩ 9) .string fun x40=>
 Ld z30 (.add ⟨w.heap.size,0,none⟩ 10) .string fun x41=>
 Ld z30 (.add ⟨w.heap.size,0,none⟩ 11) .string fun x42=>
 Ld z30 (.add ⟨w.heap.size,0,none⟩ 12) .string fun x43=>
 Ld z30 (.add ⟨w.heap.size,0,none⟩ 13) .string fun x44=>
 Ld z30 (.add ⟨w.heap.size,0,none⟩ 14) .string fun x45=>
 Ld z30 (.add ⟨w.heap.size,0,none⟩ 15) .string fun x46=>
 Ld z30 (.add ⟨w.heap.size,0,none⟩ 16) .string fun x47=>
 Ld z30 (.add ⟨w.heap.size,0,none⟩ 17) .string fun x48=>
 Ld z30 (.add ⟨w.heap.size,0,none⟩ 18) .string fun x49=>
 Ld z30 (.add ⟨w.heap.size,0,none⟩ 19) .string fun x50=>
 Ld z30 (.add ⟨w.heap.size,0,none⟩ 20) .string fun x51=>
 Ld z30 (.add ⟨w.heap.size,0,none⟩ 21) .string fun x52=>
 Ld z30 (.add ⟨w.heap.size,0,none⟩ 22) .string fun x53=>
 Ld z30 (.add ⟨w.heap.size,0,none⟩ 23) .string fun x54=>
 Ld z30 (.add ⟨w.heap.size,0,none⟩ 24) .string fun x55=>
 Ld z30 (.add ⟨w.heap.size,0,none⟩ 25) .string fun x56=>
 Ld z30 (.add ⟨w.heap.size,0,none⟩ 26) .string fun x57=>
 Ld z30 (.add ⟨w.heap.size,0,none⟩ 27) .string fun x58=>
 Lp (σ := Int) (S73L1 name1 x31 x32 x33 x34 x35 x36 x37 x38 x39 x40 x41 x42 x43 x44 x45 x46 x47 x48 x49 x50 x51 x52 x53 x54 x55 x56 x57 x58 R) 0 z30
def pl73 : Plan := (.q (.q (.seq (.q (.block (.loop [(22,(.one (.int .i64)))] [0,21] (.q (.seq (.cond .leaf .leaf) (.seq (.block (.q (.q (.cond (.q .leaf) .leaf)))) (.reg .seq))))))) (.q .leaf))))
theorem T73 (name1 : ByteArray) (w : World) (R : ByteArray -> World -> Prop) (h : S73 name1 w R) : C73 name1 w R := by
 have e : fnT Tryz.prog ⟨FF,MAY,(fun _ _=> False)⟩ pl73 Tryz.f73 [.string name1] w [(.one .str)] (fun s w=> R s w) = S73 name1 w R := by kernel_rfl
 exact (fn_calls okF okM Tryz.func73 (by kernel_rfl) (by kernel_rfl) (e.mpr h)).mono fun _ _ ⟨s,he,hR⟩=> ⟨s,he,hR⟩
def S74 (letter1 : Int) (kind2 : Int) (w : World) (R : Bool -> World -> Prop) : Prop :=
 Br (letter1 == 110) (Br (kind2 == 2) (R true w) (R (kind2 == 3) w)) (Br (letter1 == 115) (R (kind2 == 4) w) (Br (letter1 == 78) (R (kind2 == 5) w) (Br (letter1 == 97) (R (kind2 == 6) w) (Br (letter1 == 100) (R (kind2 == 7) w) (R true w)))))
def pl74 : Plan := (.q (.seq (.q (.block (.q (.cond (.q .leaf) (.q (.cond (.q .leaf) (.q (.cond (.q .leaf) (.q (.cond (.q .leaf) (.q (.cond (.q .leaf) .leaf)))))))))))) (.q .leaf)))
theorem T74 (letter1 : Int) (kind2 : Int) (w : World) (R : Bool -> World -> Prop) (h : S74 letter1 kind2 w R) : C74 letter1 kind2 w R := by
 have e : fnT Tryz.prog ⟨FF,MAY,(fun _ _=> False)⟩ pl74 Tryz.f74 [.int .i32 letter1,.int .i64 kind2] w [(.one .bool)] (fun s w=> R s w) = S74 letter1 kind2 w R := by kernel_rfl
 exact (fn_calls okF okM Tryz.func74 (by kernel_rfl) (by kernel_rfl) (e.mpr h)).mono fun _ _ ⟨s,he,hR⟩=> ⟨s,he,hR⟩
def S42L1 (w : World) (z5 : World) (R : Int -> World -> Prop) (I23 : Unit -> World -> Prop) (s21 : Unit) (z22 : World) : Prop :=
 Nx z22 ⟨z5.heap.size,0,none⟩ (fun (i24 : Int) (ch25 : Int) (z26 : World)=>
  Ld z26 (.add ⟨w.heap.size,0,none⟩ 1) Slc.v fun x27=>
  0 <= i24 /\ i24 < (x27.len : Nat) /\ Nn x27.p fun a28=>
  Ld z26 (a28.add ((i24).toNat * 6)) (.int .i64) fun x29=>
  C74 ch25 x29 z26 fun r30 z31=>
   Br (!r30) (R 28 z31) (I23 () z31)) (Ld z22 (.add ⟨w.heap.size,0,none⟩ 2) .string fun x32=>
  Br (!(x32.toList == (⟨#[]⟩ : ByteArray).toList)) (Ld z22 ⟨w.heap.size,0,none⟩ .string fun x33=>
   Br (!(x33.toList == (⟨#[66,73]⟩ : ByteArray).toList)) (R 3 z22) (R 0 z22)) (R 0 z22))
def S42 (o1 : ByteArray × Slc × ByteArray) (w : World) (R : Int -> World -> Prop) : Prop :=
 Nw w (.cells #[.string o1.1,Slc.v o1.2.1,.string o1.2.2] 48) fun z2=>
 Ld z2 ⟨w.heap.size,0,none⟩ .string fun x3=>
 C73 x3 z2 fun r4 z5=>
  Br (r4.toList == (⟨#[63]⟩ : ByteArray).toList) (R 28 z5) (Ld z5 (.add ⟨w.heap.size,0,none⟩ 1) Slc.v fun x7=>
   Br ((((r4).size : Nat) : Int) != ((x7.len : Nat) : Int)) (R 28 z5) (Nw z5 (.stringIter r4 0) fun z20=>
    Lp (σ := Unit) (S42L1 w z5 R) () z20))
def pl42 : Plan := (.q (.q (.seq (.q (.cond (.q .leaf) .leaf)) (.seq (.q (.block (.loop [] [1,20] (.q (.seq (.cond .leaf .leaf) (.block (.q (.q (.cond (.q .leaf) .leaf))))))))) (.seq (.q (.cond (.q .leaf) .leaf)) (.q .leaf))))))
theorem T42 (o1 : ByteArray × Slc × ByteArray) (w : World) (R : Int -> World -> Prop) (h : S42 o1 w R) : C42 (o1.1,o1.2.1,o1.2.2) w R := by
 have e : fnT Tryz.prog ⟨FF,MAY,(fun _ _=> False)⟩ pl42 Tryz.f42 [.agg #[.string o1.1,Slc.v o1.2.1,.string o1.2.2]] w [(.one (.int .i64))] (fun s w=> R s w) = S42 o1 w R := by kernel_rfl
 exact (fn_calls okF okM Tryz.func42 (by kernel_rfl) (by kernel_rfl) (e.mpr h)).mono fun _ _ ⟨s,he,hR⟩=> ⟨s,he,hR⟩
def S76L1 (x3 : Slc) (R : Slc -> Int -> World -> Prop) (I6 : (Slc × Int) -> World -> Prop) (s4 : Slc × Int) (z5 : World) : Prop :=
 Br (decide (s4.2 < ((x3.len : Nat) : Int))) (0 <= s4.2 /\ s4.2 < (x3.len : Nat) /\ Nn x3.p fun a7=>
  Ld z5 (a7.add ((s4.2).toNat * 6)) (.int .i64) fun x8=>
  Ld z5 ((a7.add ((s4.2).toNat * 6)).add 1) (.int .i64) fun x9=>
  Ld z5 ((a7.add ((s4.2).toNat * 6)).add 2) (.int .i64) fun x10=>
  Ld z5 ((a7.add ((s4.2).toNat * 6)).add 3) .string fun x11=>
  Ld z5 ((a7.add ((s4.2).toNat * 6)).add 4) Slc.v fun x12=>
  Ld z5 ((a7.add ((s4.2).toNat * 6)).add 5) Slc.v fun x13=>
  Nw z5 (.cells #[.int .i64 0,.int .i64 0,.int .i64 0,.string (⟨#[]⟩ : ByteArray),Slc.v ((⟨none,0,0⟩ : Slc)),Slc.v ((⟨none,0,0⟩ : Slc))] 61) fun z14=>
  St z14 ⟨z5.heap.size,0,none⟩ (.int .i64 x8) fun z15=>
  St z15 (.add ⟨z5.heap.size,0,none⟩ 1) (.int .i64 x9) fun z16=>
  St z16 (.add ⟨z5.heap.size,0,none⟩ 2) (.int .i64 x10) fun z17=>
  St z17 (.add ⟨z5.heap.size,0,none⟩ 3) (.string x11) fun z18=>
  St z18 (.add ⟨z5.heap.size,0,none⟩ 4) (Slc.v x12) fun z19=>
  St z19 (.add ⟨z5.heap.size,0,none⟩ 5) (Slc.v x13) fun z20=>
  Ld z20 ⟨z5.heap.size,0,none⟩ (.int .i64) fun x23=>
  Br (x23 != 2) (Ld z20 ⟨z5.heap.size,0,none⟩ (.int .i64) fun x24=>
   Br (x24 != 3) (R (⟨none,0,0⟩ : Slc) 10 z20) (Ld z20 ⟨z5.heap.size,0,none⟩ (.int .i64) fun x25=>
    Ld z20 (.add ⟨z5.heap.size,0,none⟩ 1) (.int .i64) fun x26=>
    Ld z20 (.add ⟨z5.heap.size,0,none⟩ 2) (.int .i64) fun x27=>
    Ld z20 (.add ⟨z5.heap.size,0,none⟩ 3) .string fun x28=>
    Ld z20 (.add ⟨z5.heap.size,0,none⟩ 4) Slc.v fun x29=>
    Ld z20 (.add ⟨z5.heap.size,0,none⟩ 5) Slc.v fun x30=>
    C114 (x25,x26,x27,x28,x29,x30) z20 fun r31 r32 z33=>
     Br (!r32) (R (⟨none,0,0⟩ : Slc) 2 z33) (Nw z33 (.cells #[.int .i64 r31] 2) fun z34=>
      Rn Tryz.prog (Builtin.append_ #[25,25] 25 #[Slc.v s4.1,Slc.v ((⟨some ⟨z33.heap.size,0,none⟩,1,1⟩ : Slc))]) z34 Slc.v fun (x35 : Slc) z36=>
      I6 (x35,IntKind.i64.wrap (s4.2 + 1)) z36))) (Ld z20 ⟨z5.heap.size,0,none⟩ (.int .i64) fun x37=>
   Ld z20 (.add ⟨z5.heap.size,0,none⟩ 1) (.int .i64) fun x38=>
   Ld z20 (.add ⟨z5.heap.size,0,none⟩ 2) (.int .i64) fun x39=>
   Ld z20 (.add ⟨z5.heap.size,0,none⟩ 3) .string fun x40=>
   Ld z20 (.add ⟨z5.heap.size,0,none⟩ 4) Slc.v fun x41=>
   Ld z20 (.add ⟨z5.heap.size,0,none⟩ 5) Slc.v fun x42=>
   C114 (x37,x38,x39,x40,x41,x42) z20 fun r43 r44 z45=>
    Br (!r44) (R (⟨none,0,0⟩ : Slc) 2 z45) (Nw z45 (.cells #[.int .i64 r43] 2) fun z46=>
     Rn Tryz.prog (Builtin.append_ #[25,25] 25 #[Slc.v s4.1,Slc.v ((⟨some ⟨z45.heap.size,0,none⟩,1,1⟩ : Slc))]) z46 Slc.v fun (x47 : Slc) z48=>
     I6 (x47,IntKind.i64.wrap (s4.2 + 1)) z48))) (R s4.1 0 z5)
def S76 (o1 : ByteArray × Slc × ByteArray) (w : World) (R : Slc -> Int -> World -> Prop) : Prop :=
 Nw w (.cells #[.string o1.1,Slc.v o1.2.1,.string o1.2.2] 48) fun z2=>
 Ld z2 (.add ⟨w.heap.size,0,none⟩ 1) Slc.v fun x3=>
 Lp (σ := Slc × Int) (S76L1 x3 R) ((⟨none,0,0⟩ : Slc),0) z2
def pl76 : Plan := (.q (.q (.seq (.q (.block (.loop [(4,(.one .slc)),(12,(.one (.int .i64)))] [10,11] (.q (.seq (.cond .leaf .leaf) (.seq (.block (.q (.seq (.q (.cond (.q .leaf) .leaf)) (.q (.seq (.q (.cond (.q .leaf) .leaf)) (.reg .seq)))))) (.reg .seq))))))) (.q .leaf))))
theorem T76 (o1 : ByteArray × Slc × ByteArray) (w : World) (R : Slc -> Int -> World -> Prop) (h : S76 o1 w R) : C76 (o1.1,o1.2.1,o1.2.2) w R := by
 have e : fnT Tryz.prog ⟨FF,MAY,(fun _ _=> False)⟩ pl76 Tryz.f76 [.agg #[.string o1.1,Slc.v o1.2.1,.string o1.2.2]] w [(.one .slc),(.one (.int .i64))] (fun s w=> R s.1 s.2 w) = S76 o1 w R := by kernel_rfl
 exact (fn_calls okF okM Tryz.func76 (by kernel_rfl) (by kernel_rfl) (e.mpr h)).mono fun _ _ ⟨s,he,hR⟩=> ⟨s.1,s.2,he,hR⟩
def S82J1 (name1 : ByteArray) (R : ByteArray -> World -> Prop) (s18 : Bool) (z19 : World) : Prop :=
 Br s18 (R (⟨#[115]⟩ : ByteArray) z19) (Br (name1.toList == (⟨#[34]⟩ : ByteArray).toList) (R (⟨#[110,110,115]⟩ : ByteArray) z19) (Br (name1.toList == (⟨#[84,74]⟩ : ByteArray).toList) (R (⟨#[97]⟩ : ByteArray) z19) (Br (name1.toList == (⟨#[100]⟩ : ByteArray).toList) (R (⟨#[97,110]⟩ : ByteArray) z19) (Br (name1.toList == (⟨#[66,73]⟩ : ByteArray).toList) (R (⟨#[100]⟩ : ByteArray) z19) (R (⟨#[63]⟩ : ByteArray) z19)))))
def S82J2 (name1 : ByteArray) (R : ByteArray -> World -> Prop) (s16 : Bool) (z17 : World) : Prop :=
 Br s16 (R (⟨#[78,42]⟩ : ByteArray) z17) (Join (S82J1 name1 R) fun (vJ20 : Bool -> World -> Prop)=>
   Br (name1.toList == (⟨#[84,106]⟩ : ByteArray).toList) (vJ20 (name1.toList == (⟨#[84,106]⟩ : ByteArray).toList) z17) (vJ20 (name1.toList == (⟨#[39]⟩ : ByteArray).toList) z17))
def S82J3 (name1 : ByteArray) (R : ByteArray -> World -> Prop) (s14 : Bool) (z15 : World) : Prop :=
 Br s14 (R (⟨#[78]⟩ : ByteArray) z15) (Br (name1.toList == (⟨#[84,102]⟩ : ByteArray).toList) (R (⟨#[78,110]⟩ : ByteArray) z15) (Join (S82J2 name1 R) fun (vJ21 : Bool -> World -> Prop)=>
    Br (name1.toList == (⟨#[66,68,67]⟩ : ByteArray).toList) (vJ21 (name1.toList == (⟨#[66,68,67]⟩ : ByteArray).toList) z15) (vJ21 (name1.toList == (⟨#[68,80]⟩ : ByteArray).toList) z15)))
def S82J4 (name1 : ByteArray) (R : ByteArray -> World -> Prop) (s12 : Bool) (z13 : World) : Prop :=
 Br s12 (R (⟨#[110,110,110,110,110,110]⟩ : ByteArray) z13) (Join (S82J3 name1 R) fun (vJ22 : Bool -> World -> Prop)=>
   Br (name1.toList == (⟨#[66,77,67]⟩ : ByteArray).toList) (vJ22 (name1.toList == (⟨#[66,77,67]⟩ : ByteArray).toList) z13) (Br (name1.toList == (⟨#[99,115]⟩ : ByteArray).toList) (vJ22 (name1.toList == (⟨#[99,115]⟩ : ByteArray).toList) z13) (Br (name1.toList == (⟨#[67,83]⟩ : ByteArray).toList) (vJ22 (name1.toList == (⟨#[67,83]⟩ : ByteArray).toList) z13) (Br (name1.toList == (⟨#[68,111]⟩ : ByteArray).toList) (vJ22 (name1.toList == (⟨#[68,111]⟩ : ByteArray).toList) z13) (Br (name1.toList == (⟨#[103,115]⟩ : ByteArray).toList) (vJ22 (name1.toList == (⟨#[103,115]⟩ : ByteArray).toList) z13) (Br (name1.toList == (⟨#[77,80]⟩ : ByteArray).toList) (vJ22 (name1.toList == (⟨#[77,80]⟩ : ByteArray).toList) z13) (Br (name1.toList == (⟨#[114,105]⟩ : ByteArray).toList) (vJ22 (name1.toList == (⟨#[114,105]⟩ : ByteArray).toList) z13) (vJ22 (name1.toList == (⟨#[115,104]⟩ : ByteArray).toList) z13))))))))
def S82J5 (name1 : ByteArray) (R : ByteArray -> World -> Prop) (s10 : Bool) (z11 : World) : Prop :=
 Br s10 (R (⟨#[110,110,110,110]⟩ : ByteArray) z11) (Join (S82J4 name1 R) fun (vJ23 : Bool -> World -> Prop)=>
   Br (name1.toList == (⟨#[99]⟩ : ByteArray).toList) (vJ23 (name1.toList == (⟨#[99]⟩ : ByteArray).toList) z11) (Br (name1.toList == (⟨#[99,109]⟩ : ByteArray).toList) (vJ23 (name1.toList == (⟨#[99,109]⟩ : ByteArray).toList) z11) (Br (name1.toList == (⟨#[100,49]⟩ : ByteArray).toList) (vJ23 (name1.toList == (⟨#[100,49]⟩ : ByteArray).toList) z11) (vJ23 (name1.toList == (⟨#[84,109]⟩ : ByteArray).toList) z11))))
def S82J6 (name1 : ByteArray) (R : ByteArray -> World -> Prop) (s8 : Bool) (z9 : World) : Prop :=
 Br s8 (R (⟨#[110,110,110]⟩ : ByteArray) z9) (Join (S82J5 name1 R) fun (vJ24 : Bool -> World -> Prop)=>
   Br (name1.toList == (⟨#[107]⟩ : ByteArray).toList) (vJ24 (name1.toList == (⟨#[107]⟩ : ByteArray).toList) z9) (Br (name1.toList == (⟨#[75]⟩ : ByteArray).toList) (vJ24 (name1.toList == (⟨#[75]⟩ : ByteArray).toList) z9) (Br (name1.toList == (⟨#[114,101]⟩ : ByteArray).toList) (vJ24 (name1.toList == (⟨#[114,101]⟩ : ByteArray).toList) z9) (Br (name1.toList == (⟨#[118]⟩ : ByteArray).toList) (vJ24 (name1.toList == (⟨#[118]⟩ : ByteArray).toList) z9) (vJ24 (name1.toList == (⟨#[121]⟩ : ByteArray).toList) z9)))))
def S82J7 (name1 : ByteArray) (R : ByteArray -> World -> Prop) (s6 : Bool) (z7 : World) : Prop :=
 Br s6 (R (⟨#[110,110]⟩ : ByteArray) z7) (Join (S82J6 name1 R) fun (vJ25 : Bool -> World -> Prop)=>
   Br (name1.toList == (⟨#[114,103]⟩ : ByteArray).toList) (vJ25 (name1.toList == (⟨#[114,103]⟩ : ByteArray).toList) z7) (vJ25 (name1.toList == (⟨#[82,71]⟩ : ByteArray).toList) z7))
def S82J8 (name1 : ByteArray) (R : ByteArray -> World -> Prop) (s4 : Bool) (z5 : World) : Prop :=
 Br s4 (R (⟨#[110]⟩ : ByteArray) z5) (Join (S82J7 name1 R) fun (vJ26 : Bool -> World -> Prop)=>
   Br (name1.toList == (⟨#[100,48]⟩ : ByteArray).toList) (vJ26 (name1.toList == (⟨#[100,48]⟩ : ByteArray).toList) z5) (Br (name1.toList == (⟨#[108]⟩ : ByteArray).toList) (vJ26 (name1.toList == (⟨#[108]⟩ : ByteArray).toList) z5) (Br (name1.toList == (⟨#[109]⟩ : ByteArray).toList) (vJ26 (name1.toList == (⟨#[109]⟩ : ByteArray).toList) z5) (Br (name1.toList == (⟨#[84,100]⟩ : ByteArray).toList) (vJ26 (name1.toList == (⟨#[84,100]⟩ : ByteArray).toList) z5) (vJ26 (name1.toList == (⟨#[84,68]⟩ : ByteArray).toList) z5)))))
def S82J9 (name1 : ByteArray) (R : ByteArray -> World -> Prop) (s2 : Bool) (z3 : World) : Prop :=
 Br s2 (R (⟨#[]⟩ : ByteArray) z3) (Join (S82J8 name1 R) fun (vJ27 : Bool -> World -> Prop)=>
   Br (name1.toList == (⟨#[103]⟩ : ByteArray).toList) (vJ27 (name1.toList == (⟨#[103]⟩ : ByteArray).toList) z3) (Br (name1.toList == (⟨#[71]⟩ : ByteArray).toList) (vJ27 (name1.toList == (⟨#[71]⟩ : ByteArray).toList) z3) (Br (name1.toList == (⟨#[105]⟩ : ByteArray).toList) (vJ27 (name1.toList == (⟨#[105]⟩ : ByteArray).toList) z3) (Br (name1.toList == (⟨#[106]⟩ : ByteArray).toList) (vJ27 (name1.toList == (⟨#[106]⟩ : ByteArray).toList) z3) (Br (name1.toList == (⟨#[74]⟩ : ByteArray).toList) (vJ27 (name1.toList == (⟨#[74]⟩ : ByteArray).toList) z3) (Br (name1.toList == (⟨#[77]⟩ : ByteArray).toList) (vJ27 (name1.toList == (⟨#[77]⟩ : ByteArray).toList) z3) (Br (name1.toList == (⟨#[119]⟩ : ByteArray).toList) (vJ27 (name1.toList == (⟨#[119]⟩ : ByteArray).toList) z3) (Br (name1.toList == (⟨#[84,99]⟩ : ByteArray).toList) (vJ27 (name1.toList == (⟨#[84,99]⟩ : ByteArray).toList) z3) (Br (name1.toList == (⟨#[84,76]⟩ : ByteArray).toList) (vJ27 (name1.toList == (⟨#[84,76]⟩ : ByteArray).toList) z3) (Br (name1.toList == (⟨#[84,114]⟩ : ByteArray).toList) (vJ27 (name1.toList == (⟨#[84,114]⟩ : ByteArray).toList) z3) (Br (name1.toList == (⟨#[84,115]⟩ : ByteArray).toList) (vJ27 (name1.toList == (⟨#[84,115]⟩ : ByteArray).toList) z3) (Br (name1.toList == (⟨#[84,119]⟩ : ByteArray).toList) (vJ27 (name1.toList == (⟨#[84,119]⟩ : ByteArray).toList) z3) (vJ27 (name1.toList == (⟨#[84,122]⟩ : ByteArray).toList) z3)))))))))))))
def S82 (name1 : ByteArray) (w : World) (R : ByteArray -> World -> Prop) : Prop :=
 Join (S82J9 name1 R) fun (vJ28 : Bool -> World -> Prop)=>
  Br (name1.toList == (⟨#[98]⟩ : ByteArray).toList) (vJ28 (name1.toList == (⟨#[98]⟩ : ByteArray).toList) w) (Br (name1.toList == (⟨#[66]⟩ : ByteArray).toList) (vJ28 (name1.toList == (⟨#[66]⟩ : ByteArray).toList) w) (Br (name1.toList == (⟨#[98,42]⟩ : ByteArray).toList) (vJ28 (name1.toList == (⟨#[98,42]⟩ : ByteArray).toList) w) (Br (name1.toList == (⟨#[66,42]⟩ : ByteArray).toList) (vJ28 (name1.toList == (⟨#[66,42]⟩ : ByteArray).toList) w) (Br (name1.toList == (⟨#[66,84]⟩ : ByteArray).toList) (vJ28 (name1.toList == (⟨#[66,84]⟩ : ByteArray).toList) w) (Br (name1.toList == (⟨#[69,84]⟩ : ByteArray).toList) (vJ28 (name1.toList == (⟨#[69,84]⟩ : ByteArray).toList) w) (Br (name1.toList == (⟨#[69,77,67]⟩ : ByteArray).toList) (vJ28 (name1.toList == (⟨#[69,77,67]⟩ : ByteArray).toList) w) (Br (name1.toList == (⟨#[66,88]⟩ : ByteArray).toList) (vJ28 (name1.toList == (⟨#[66,88]⟩ : ByteArray).toList) w) (Br (name1.toList == (⟨#[69,88]⟩ : ByteArray).toList) (vJ28 (name1.toList == (⟨#[69,88]⟩ : ByteArray).toList) w) (Br (name1.toList == (⟨#[102]⟩ : ByteArray).toList) (vJ28 (name1.toList == (⟨#[102]⟩ : ByteArray).toList) w) (Br (name1.toList == (⟨#[70]⟩ : ByteArray).toList) (vJ28 (name1.toList == (⟨#[70]⟩ : ByteArray).toList) w) (Br (name1.toList == (⟨#[102,42]⟩ : ByteArray).toList) (vJ28 (name1.toList == (⟨#[102,42]⟩ : ByteArray).toList) w) (Br (name1.toList == (⟨#[104]⟩ : ByteArray).toList) (vJ28 (name1.toList == (⟨#[104]⟩ : ByteArray).toList) w) (Br (name1.toList == (⟨#[110]⟩ : ByteArray).toList) (vJ28 (name1.toList == (⟨#[110]⟩ : ByteArray).toList) w) (Br (name1.toList == (⟨#[113]⟩ : ByteArray).toList) (vJ28 (name1.toList == (⟨#[113]⟩ : ByteArray).toList) w) (Br (name1.toList == (⟨#[81]⟩ : ByteArray).toList) (vJ28 (name1.toList == (⟨#[81]⟩ : ByteArray).toList) w) (Br (name1.toList == (⟨#[115]⟩ : ByteArray).toList) (vJ28 (name1.toList == (⟨#[115]⟩ : ByteArray).toList) w) (Br (name1.toList == (⟨#[83]⟩ : ByteArray).toList) (vJ28 (name1.toList == (⟨#[83]⟩ : ByteArray).toList) w) (Br (name1.toList == (⟨#[84,42]⟩ : ByteArray).toList) (vJ28 (name1.toList == (⟨#[84,42]⟩ : ByteArray).toList) w) (Br (name1.toList == (⟨#[87]⟩ : ByteArray).toList) (vJ28 (name1.toList == (⟨#[87]⟩ : ByteArray).toList) w) (vJ28 (name1.toList == (⟨#[87,42]⟩ : ByteArray).toList) w))))))))))))))))))))
def pl82 : Plan := (.q (.seq (.q (.block (.join [(4,(.one .bool))] [3] (.q (.cond .leaf (.q (.cond .leaf (.q (.cond .leaf (.q (.cond .leaf (.q (.cond .leaf (.q (.cond .leaf (.q (.cond .leaf (.q (.cond .leaf (.q (.cond .leaf (.q (.cond .leaf (.q (.cond .leaf (.q (.cond .leaf (.q (.cond .leaf (.q (.cond .leaf (.q (.cond .leaf (.q (.cond .leaf (.q (.cond .leaf (.q (.cond .leaf (.q (.cond .leaf (.q (.cond .leaf (.reg .seq))))))))))))))))))))))))))))))))))))))))) (.cond (.q .leaf) (.join [(26,(.one .bool))] [3] (.q (.cond .leaf (.q (.cond .leaf (.q (.cond .leaf (.q (.cond .leaf (.q (.cond .leaf (.q (.cond .leaf (.q (.cond .leaf (.q (.cond .leaf (.q (.cond .leaf (.q (.cond .leaf (.q (.cond .leaf (.q (.cond .leaf (.reg .seq))))))))))))))))))))))))) (.cond (.q .leaf) (.join [(40,(.one .bool))] [3] (.q (.cond .leaf (.q (.cond .leaf (.q (.cond .leaf (.q (.cond .leaf (.reg .seq))))))))) (.cond (.q .leaf) (.join [(46,(.one .bool))] [3] (.q (.cond .leaf (.reg .seq))) (.cond (.q .leaf) (.join [(49,(.one .bool))] [3] (.q (.cond .leaf (.q (.cond .leaf (.q (.cond .leaf (.q (.cond .leaf (.reg .seq))))))))) (.cond (.q .leaf) (.join [(55,(.one .bool))] [3] (.q (.cond .leaf (.q (.cond .leaf (.q (.cond .leaf (.reg .seq))))))) (.cond (.q .leaf) (.join [(60,(.one .bool))] [3] (.q (.cond .leaf (.q (.cond .leaf (.q (.cond .leaf (.q (.cond .leaf (.q (.cond .leaf (.q (.cond .leaf (.q (.cond .leaf (.reg .seq))))))))))))))) (.cond (.q .leaf) (.q (.cond (.q .leaf) (.join [(71,(.one .bool))] [3] (.q (.cond .leaf (.reg .seq))) (.cond (.q .leaf) (.join [(74,(.one .bool))] [3] (.q (.cond .leaf (.reg .seq))) (.cond (.q .leaf) (.q (.cond (.q .leaf) (.q (.cond (.q .leaf) (.q (.cond (.q .leaf) (.q (.cond (.q .leaf) .leaf)))))))))))))))))))))))))))))) (.q .leaf)))
theorem T82 (name1 : ByteArray) (w : World) (R : ByteArray -> World -> Prop) (h : S82 name1 w R) : C82 name1 w R := by
 have e : fnT Tryz.prog ⟨FF,MAY,(fun _ _=> False)⟩ pl82 Tryz.f82 [.string name1] w [(.one .str)] (fun s w=> R s w) = S82 name1 w R := by kernel_rfl
 exact (fn_calls okF okM Tryz.func82 (by kernel_rfl) (by kernel_rfl) (e.mpr h)).mono fun _ _ ⟨s,he,hR⟩=> ⟨s,he,hR⟩
def S83 (o1 : Int × Int × Int × ByteArray × Slc × Slc) (c2 : Int) (w : World) (R : Bool -> World -> Prop) : Prop :=
 Nw w (.cells #[.int .i64 (o1.1),.int .i64 (o1.2.1),.int .i64 (o1.2.2.1),.string o1.2.2.2.1,Slc.v o1.2.2.2.2.1,Slc.v o1.2.2.2.2.2] 61) fun z3=>
 Br (c2 == 110) (Ld z3 ⟨w.heap.size,0,none⟩ (.int .i64) fun x4=>
  Br (x4 == 2) (R true z3) (Ld z3 ⟨w.heap.size,0,none⟩ (.int .i64) fun x5=>
   R (x5 == 3) z3)) (Br (c2 == 115) (Ld z3 ⟨w.heap.size,0,none⟩ (.int .i64) fun x6=>
   R (x6 == 4) z3) (Br (c2 == 78) (Ld z3 ⟨w.heap.size,0,none⟩ (.int .i64) fun x7=>
    R (x7 == 5) z3) (Br (c2 == 97) (Ld z3 ⟨w.heap.size,0,none⟩ (.int .i64) fun x8=>
     R (x8 == 6) z3) (Br (c2 == 100) (Ld z3 ⟨w.heap.size,0,none⟩ (.int .i64) fun x9=>
      R (x9 == 7) z3) (R true z3)))))
def pl83 : Plan := (.q (.seq (.q (.block (.q (.cond (.q .leaf) (.q (.cond (.q .leaf) (.q (.cond (.q .leaf) (.q (.cond (.q .leaf) (.q (.cond (.q .leaf) .leaf)))))))))))) (.q .leaf)))
theorem T83 (o1 : Int × Int × Int × ByteArray × Slc × Slc) (c2 : Int) (w : World) (R : Bool -> World -> Prop) (h : S83 o1 c2 w R) : C83 (o1.1,o1.2.1,o1.2.2.1,o1.2.2.2.1,o1.2.2.2.2.1,o1.2.2.2.2.2) c2 w R := by
 have e : fnT Tryz.prog ⟨FF,MAY,(fun _ _=> False)⟩ pl83 Tryz.f83 [.agg #[.int .i64 (o1.1),.int .i64 (o1.2.1),.int .i64 (o1.2.2.1),.string o1.2.2.2.1,Slc.v o1.2.2.2.2.1,Slc.v o1.2.2.2.2.2],.int .u8 c2] w [(.one .bool)] (fun s w=> R s w) = S83 o1 c2 w R := by kernel_rfl
 exact (fn_calls okF okM Tryz.func83 (by kernel_rfl) (by kernel_rfl) (e.mpr h)).mono fun _ _ ⟨s,he,hR⟩=> ⟨s,he,hR⟩
def S46L1 (w : World) (r4 : ByteArray) (R : Int -> World -> Prop) (I23 : Int -> World -> Prop) (s21 : Int) (z22 : World) : Prop :=
 Br (decide (s21 < (((r4).size : Nat) : Int))) (Ld z22.drew (.add ⟨w.heap.size,0,none⟩ 1) Slc.v fun x24=>
  0 <= s21 /\ s21 < (x24.len : Nat) /\ Nn x24.p fun a25=>
  Ld z22.drew (a25.add ((s21).toNat * 6)) (.int .i64) fun x26=>
  Ld z22.drew ((a25.add ((s21).toNat * 6)).add 1) (.int .i64) fun x27=>
  Ld z22.drew ((a25.add ((s21).toNat * 6)).add 2) (.int .i64) fun x28=>
  Ld z22.drew ((a25.add ((s21).toNat * 6)).add 3) .string fun x29=>
  Ld z22.drew ((a25.add ((s21).toNat * 6)).add 4) Slc.v fun x30=>
  Ld z22.drew ((a25.add ((s21).toNat * 6)).add 5) Slc.v fun x31=>
  0 <= s21 /\ s21 < ((r4).size : Nat) /\ C83 (x26,x27,x28,x29,x30,x31) (bAt r4 s21) z22.drew fun r32 z33=>
   Br (!r32) (R 28 z33) (I23 (IntKind.i64.wrap (s21 + 1)) z33)) (Ld z22 (.add ⟨w.heap.size,0,none⟩ 2) .string fun x34=>
  Br (!(x34.toList == (⟨#[]⟩ : ByteArray).toList)) (Ld z22 ⟨w.heap.size,0,none⟩ .string fun x35=>
   Br (!(x35.toList == (⟨#[66,73]⟩ : ByteArray).toList)) (R 3 z22) (R 0 z22)) (R 0 z22))
def S46 (o1 : ByteArray × Slc × ByteArray) (w : World) (R : Int -> World -> Prop) : Prop :=
 Nw w (.cells #[.string o1.1,Slc.v o1.2.1,.string o1.2.2] 48) fun z2=>
 Ld z2 ⟨w.heap.size,0,none⟩ .string fun x3=>
 C82 x3 z2 fun r4 z5=>
  Br (r4.toList == (⟨#[63]⟩ : ByteArray).toList) (R 28 z5) (Ld z5 (.add ⟨w.heap.size,0,none⟩ 1) Slc.v fun x7=>
   Br ((((r4).size : Nat) : Int) != ((x7.len : Nat) : Int)) (R 28 z5) (Lp (σ := Int) (S46L1 w r4 R) 0 z5))
def pl46 : Plan := (.q (.q (.seq (.q (.cond (.q .leaf) .leaf)) (.seq (.q (.block (.loop [(4,(.one (.int .i64)))] [1,3] (.seq (.q (.cond .leaf .leaf)) (.seq (.block (.seq (.reg (.tail 8)) (.cond (.q .leaf) .leaf))) (.reg .seq)))))) (.seq (.q (.cond (.q .leaf) .leaf)) (.q .leaf))))))
theorem T46 (o1 : ByteArray × Slc × ByteArray) (w : World) (R : Int -> World -> Prop) (h : S46 o1 w R) : C46 (o1.1,o1.2.1,o1.2.2) w R := by
 have e : fnT Tryz.prog ⟨FF,MAY,(fun _ _=> False)⟩ pl46 Tryz.f46 [.agg #[.string o1.1,Slc.v o1.2.1,.string o1.2.2]] w [(.one (.int .i64))] (fun s w=> R s w) = S46 o1 w R := by kernel_rfl
 exact (fn_calls okF okM Tryz.func46 (by kernel_rfl) (by kernel_rfl) (e.mpr h)).mono fun _ _ ⟨s,he,hR⟩=> ⟨s,he,hR⟩
end Go.Proofs.YtcblpehnkogfdaaGreatDoor

/- Content operators: strings.Fields over ASCII, slices.Contains over strings, ops.Takes. Condition: the table of spaces is laid. -/
namespace Go.Proofs.YtcblpehnkogfdaaGreatDoor
namespace Opr
open Sh
set_option maxRecDepth 4000
set_option maxHeartbeats 4000000
abbrev bl (s : ByteArray) : By := s.data.toList
def ba (l : By) : ByteArray := ⟨l.toArray⟩
theorem bl_ba (l : By) : bl (ba l) = l := by simp [bl,ba]
theorem bl_size (s : ByteArray) : s.size = (bl s).length := (Array.length_toList (xs := s.data)).symm
theorem ba_size (l : By) : (ba l).size = l.length := List.size_toArray
theorem eqB (a b : ByteArray) : (a.toList == b.toList) = decide (bl a = bl b) := by
 rw [ByteArray.toList_eq,ByteArray.toList_eq]
 by_cases h : bl a = bl b
 ·rw [decide_eq_true h]
  simpa using h
 ·rw [decide_eq_false h]
  simpa using h
def AS (w : World) : Prop := Fo.TB w
theorem AS.keep {w w' : World} (h : AS w) (he : Ext (fun _=> False) w w') : AS w' := Fo.TB.keep h he
def strsB (L : List By) : List Value := L.map fun l=> .string (ba l)
theorem strsB_len (L : List By) : (strsB L).length = L.length := by unfold strsB; simp
theorem strsB_get {L : List By} {i : Nat} {l : By} (h : L[i]? = some l) : (strsB L)[i]? = some (.string (ba l)) := by
 unfold strsB
 rw [List.getElem?_map,h]
 rfl
def SL (w : World) (s : Slc) (L : List By) : Prop := s.len = L.length /\ VRow w s 1 (strsB L)
theorem SL.keep {w w' : World} {s : Slc} {L : List By} (h : SL w s L) (he : Ext (fun _=> False) w w') : SL w' s L := ⟨h.1,h.2.keep he⟩
theorem SL.get {w : World} {s : Slc} {L : List By} (h : SL w s L) {i : Nat} {l : By} (hi : L[i]? = some l) : ∃ a,s.p = some a /\ w.cell? (a.add (i * 1)) = some (.string (ba l)) := by
 obtain ⟨a,ha,hc⟩ := h.2.2 i _ (strsB_get hi)
 exact ⟨a,ha,by rw [Nat.mul_one]; exact hc⟩
theorem SL.blk {w : World} {g n : Nat} {L : List By} {t : TypeId} (h : Blk w g (strsB L).toArray t) (hn : n = L.length) : SL w ⟨some ⟨g,0,none⟩,n,n⟩ L := ⟨hn,VRow.of h (by rw [strsB_len,hn]; omega)⟩
attribute [local irreducible] Ld St Nw Nn Lt LdS
section
variable {w w1 : World} {s : ByteArray} {L : List By}
theorem c_fields (h : AS w) (hs : fieldsM (bl s) = some L) (hsz : s.size <= 1000000) : C113 s w fun r w1=> SL w1 r L /\ Ext (fun _=> False) w w1 := by
 unfold fieldsM at hs
 split at hs
 rotate_left
 ·cases hs
 rename_i ha
 obtain rfl := Option.some.inj hs
 refine (Tryz.strings_Fields s w (by omega) (fun j b hj=> ?_) h.1).mono fun e w' hh=> ?_
 ·have hm : b ∈ bl s := List.mem_of_getElem? hj
  simpa using List.all_eq_true.1 ha b hm
 ·obtain ⟨rfl,rfl⟩ := hh
  refine ⟨⟨_,_,_⟩,rfl,SL.blk (g := w.heap.size) (L := Lib.fields (bl s)) (Blk.new w _ _) rfl,(Ext.refl _ _).alloc _⟩
end
end Opr
end Go.Proofs.YtcblpehnkogfdaaGreatDoor

/- Content operators: Takes and Check, on both sides. Condition: the table of spaces is laid. -/
namespace Go.Proofs.YtcblpehnkogfdaaGreatDoor
namespace Opr
open Sh Mat
set_option maxRecDepth 8000
set_option maxHeartbeats 8000000
theorem takesL_at {nm : By} : ∀ (R : List (By × By × List By)) (i : Nat) (r : By × By × List By),R[i]? = some r -> (∀ (j : Nat) (q : By × By × List By),j < i -> R[j]? = some q -> nm ∉ q.2.2) -> nm ∈ r.2.2 -> takesL nm R = r.1
 | [],i,r,h,_,_=> by cases h
 | x :: R,0,r,h,_,hm=> by
  cases h
  unfold takesL
  rw [if_pos hm]
 | x :: R,i + 1,r,h,hn,hm=> by
  unfold takesL
  rw [if_neg (hn 0 x (by omega) rfl)]
  exact takesL_at R i r (by simpa using h) (fun j q hj hq=> hn (j + 1) q (by omega) (by simpa using hq)) hm
theorem takesL_no {nm : By} : ∀ (R : List (By × By × List By)),(∀ (j : Nat) (q : By × By × List By),R[j]? = some q -> nm ∉ q.2.2) -> takesL nm R = [63]
 | [],_=> rfl
 | x :: R,hn=> by
  unfold takesL
  rw [if_neg (hn 0 x rfl)]
  exact takesL_no R fun j q hq=> hn (j + 1) q (by simpa using hq)
theorem takes_in (nm : By) : takes nm = [63] \/ ∃ r ∈ rows,takes nm = r.1 := by
 have : ∀ R : List (By × By × List By),takesL nm R = [63] \/ ∃ r ∈ R,takesL nm R = r.1 := fun R=> by
  induction R with
  | nil=> exact .inl rfl
  | cons x R ih=>
   unfold takesL
   split
   ·exact .inr ⟨x,by simp,rfl⟩
   ·rcases ih with h | ⟨r,hr,h⟩
    ·exact .inl h
    ·exact .inr ⟨r,List.mem_cons_of_mem _ hr,h⟩
 exact this rows
theorem rows_low : (rows.all fun r=> decide (r.1.length <= 6) && r.1.all fun b=> decide (b < 128)) = true := by decide +kernel
theorem takes_low (nm : By) : (takes nm).length <= 6 /\ ∀ i,i < (takes nm).length -> ((takes nm).getD i 0).toNat < 128 := by
 have key : ∀ l : By,(decide (l.length <= 6) && l.all fun b=> decide (b < 128)) = true -> l.length <= 6 /\ ∀ i,i < l.length -> (l.getD i 0).toNat < 128 := fun l hl=> by
  obtain ⟨h1,h2⟩ := Bool.and_eq_true_iff.1 hl
  refine ⟨of_decide_eq_true h1,fun i hi=> ?_⟩
  have := List.all_eq_true.1 h2 (l.getD i 0) (by rw [List.getD_eq_getElem?_getD,List.getElem?_eq_getElem hi]; exact List.getElem_mem hi)
  exact of_decide_eq_true this
 rcases takes_in nm with h | ⟨r,hr,h⟩
 ·rw [h]
  exact key _ (by decide)
 ·rw [h]
  exact key _ (List.all_eq_true.1 rows_low r hr)
def fitsK (b : UInt8) (k : Int) : Bool := if b = 110 then k == 2 || k == 3 else if b = 115 then k == 4 else if b = 78 then k == 5 else if b = 97 then k == 6 else if b = 100 then k == 7 else true
def fitsT : By -> List Ob -> Bool
 | b :: t,o :: L=> fitsK b o.1 && fitsT t L
 | _,_=> true
def chkF (nm : By) (L : List Ob) (d : By) : Int := if takes nm = [63] then 28 else if (takes nm).length ≠ L.length then 28 else if fitsT (takes nm) L = false then 28 else if d ≠ [] /\ nm ≠ [66,73] then 3 else 0
theorem fitsT_no {t : By} {L : List Ob} {i : Nat} {b : UInt8} {o : Ob} (hb : t[i]? = some b) (ho : L[i]? = some o) (h : fitsK b o.1 = false) : fitsT t L = false := by
 induction t generalizing L i with
 | nil=> cases hb
 | cons x t ih=>
  cases L with
  | nil=> cases ho
  | cons p L=>
   cases i with
   | zero=>
    cases hb; cases ho
    simp [fitsT,h]
   | succ i=>
    simp [fitsT,ih (by simpa using hb) (by simpa using ho)]
theorem fitsT_yes {t : By} {L : List Ob} (h : ∀ (i : Nat) (b : UInt8) (o : Ob),t[i]? = some b -> L[i]? = some o -> fitsK b o.1 = true) : fitsT t L = true := by
 induction t generalizing L with
 | nil=> unfold fitsT; rfl
 | cons x t ih=>
  cases L with
  | nil=> unfold fitsT; rfl
  | cons p L=>
   have h0 := h 0 x p rfl rfl
   have := ih (L := L) fun i b o hb ho=> h (i + 1) b o (by simpa using hb) (by simpa using ho)
   simp [fitsT,h0,this]
theorem itW_ext (w : World) (b : Nat) (s : ByteArray) (p : Nat) : Ext (· = b) w (itW w b s p) :=
 ⟨rfl,rfl,rfl,by simp [itW],fun k hk hn=> by
  unfold itW
  simp only
  rw [Array.getElem?_setIfInBounds]
  rw [if_neg fun e=> hn e.symm]⟩
theorem itW_at {w : World} {b : Nat} {s : ByteArray} {p : Nat} (h : b < w.heap.size) : (itW w b s p).heap[b]? = some (.stringIter s p) := by
 unfold itW
 simp [Array.getElem?_setIfInBounds,h]
attribute [local irreducible] Ld St Nw Nn Lt LdS
section
variable {w w1 : World} {s : Slc} {L : List By}
theorem c_contains (h : SL w s L) (hl : L.length <= 1000000) (v : ByteArray) : C72 s v w fun r w1=> r = decide (bl v ∈ L) /\ w1 = w := by
 refine T72 _ _ _ _ ?_
 unfold S72
 refine C112.mono (T112 _ _ _ (fun r w1=> decide (r >= 0) = decide (bl v ∈ L) /\ w1 = w) ?_) (fun r w1 h=> h)
 unfold S112
 refine ⟨fun n st w1=> ∃ i : Nat,st = (i : Int) /\ i <= L.length /\ n = L.length - i /\ w1 = w /\ ∀ j l,j < i -> L[j]? = some l -> bl v ≠ l,L.length,⟨0,rfl,by omega,rfl,rfl,fun j l hj=> by omega⟩,?_⟩
 rintro n st w ⟨i,rfl,hi,rfl,rfl,hno⟩
 unfold S112L1
 rw [h.1]
 refine Br.dec (fun q=> ⟨by omega,by omega,?_⟩) fun q=> ?_
 ·obtain ⟨l,hli⟩ : ∃ l,L[i]? = some l := ⟨_,List.getElem?_eq_getElem (by omega)⟩
  obtain ⟨a,ha,hc⟩ := h.get hli
  rw [ha,Int.toNat_natCast]
  refine Nn.of (Ld.mk hc ?_)
  rw [eqB,bl_ba]
  refine Br.dec (fun q2=> ⟨?_,rfl⟩) fun q2=> ⟨L.length - (i + 1),by omega,i + 1,by rw [i64_id (by omega)]; rfl,by omega,rfl,rfl,fun j l' hj hl'=> ?_⟩
  ·rw [decide_eq_true (by omega),decide_eq_true (by rw [q2]; exact List.mem_of_getElem? hli)]
  ·by_cases e : j = i
   ·subst e
    rw [hli] at hl'
    cases hl'
    exact q2
   ·exact hno j l' (by omega) hl'
 ·refine ⟨?_,rfl⟩
  rw [decide_eq_false (by omega),decide_eq_false]
  intro hm
  obtain ⟨j,hj⟩ := List.mem_iff_getElem?.1 hm
  exact hno j _ (by have := (List.getElem?_eq_some_iff.1 hj).1; omega) hj rfl
theorem tab14 {i : Nat} (h : i < 14) : ∃ r,rows[i]? = some r /\ (#[.string ⟨#[]⟩,.string ⟨#[98,32,66,32,98,42,32,66,42,32,66,84,32,69,84,32,69,77,67,32,66,88,32,69,88,32,102,32,70,32,102,42,32,104,32,110,32,113,32,81,32,115,32,83,32,84,42,32,87,32,87,42]⟩,.string ⟨#[110]⟩,.string ⟨#[103,32,71,32,105,32,106,32,74,32,77,32,119,32,84,99,32,84,76,32,84,114,32,84,115,32,84,119,32,84,122]⟩,.string ⟨#[110,110]⟩,.string ⟨#[100,48,32,108,32,109,32,84,100,32,84,68]⟩,.string ⟨#[110,110,110]⟩,.string ⟨#[114,103,32,82,71]⟩,.string ⟨#[110,110,110,110]⟩,.string ⟨#[107,32,75,32,114,101,32,118,32,121]⟩,.string ⟨#[110,110,110,110,110,110]⟩,.string ⟨#[99,32,99,109,32,100,49,32,84,109]⟩,.string ⟨#[78]⟩,.string ⟨#[66,77,67,32,99,115,32,67,83,32,68,111,32,103,115,32,77,80,32,114,105,32,115,104]⟩,.string ⟨#[78,110]⟩,.string ⟨#[84,102]⟩,.string ⟨#[78,42]⟩,.string ⟨#[66,68,67,32,68,80]⟩,.string ⟨#[115]⟩,.string ⟨#[84,106,32,39]⟩,.string ⟨#[110,110,115]⟩,.string ⟨#[34]⟩,.string ⟨#[97]⟩,.string ⟨#[84,74]⟩,.string ⟨#[97,110]⟩,.string ⟨#[100]⟩,.string ⟨#[100]⟩,.string ⟨#[66,73]⟩] : Array Value).extract (i * 2) (i * 2 + 2) = #[.string (ba r.1),.string (ba r.2.1)] := by
 have hc : i = 0 \/ i = 1 \/ i = 2 \/ i = 3 \/ i = 4 \/ i = 5 \/ i = 6 \/ i = 7 \/ i = 8 \/ i = 9 \/ i = 10 \/ i = 11 \/ i = 12 \/ i = 13 := by omega
 rcases hc with rfl | rfl | rfl | rfl | rfl | rfl | rfl | rfl | rfl | rfl | rfl | rfl | rfl | rfl <;> exact ⟨_,rfl,rfl⟩
theorem c_takes (h : AS w) (name : ByteArray) : C73 name w fun r w1=> r = ba (takes (bl name)) /\ Ext (fun _=> False) w w1 := by
 refine T73 _ _ _ ?_
 unfold S73
 refine (Hn.start w).nw fun w2 H=> ?_
 simp only [List.nil_append,add_lit,Nat.zero_add] at H ⊢
 iterate 28 (refine H.st 0 rfl (by simp) fun _ H=> ?_; simp only [List.nil_append,List.cons_append,List.set_cons_zero,List.set_cons_succ,Nat.zero_add] at H)
 iterate 28 refine H.ld 0 rfl rfl ?_
 have e0 := H.ext
 clear H
 refine ⟨fun n st w3=> ∃ i : Nat,st = (i : Int) /\ i <= 14 /\ n = 14 - i /\ Ext (fun _=> False) w w3 /\ ∀ j q,j < i -> rows[j]? = some q -> bl name ∉ q.2.2,14,⟨0,rfl,by omega,rfl,e0,fun j q hj=> by omega⟩,?_⟩
 clear e0
 rintro n st w3 ⟨i,rfl,hi,rfl,e3,hno⟩
 unfold S73L1
 refine Br.dec (fun q=> ⟨by omega,by omega,?_⟩) fun q=> ⟨?_,e3⟩
 ·obtain ⟨r,hr,hx⟩ := tab14 (i := i) (by omega)
  have hmem : r ∈ rows := List.mem_of_getElem? hr
  rw [Int.toNat_natCast]
  refine ⟨(ba r.1,ba r.2.1),hx,?_⟩
  refine (Hn.start w3).nw fun w4 H=> ?_
  simp only [List.nil_append] at H
  iterate 2 (refine H.st 0 rfl (by simp) fun _ H=> ?_; simp only [List.nil_append,List.cons_append,List.set_cons_zero,List.set_cons_succ,Nat.zero_add] at H)
  iterate 1 refine H.ld 0 rfl rfl ?_
  have e4 := e3.tr H.ext
  refine (c_fields (h.keep e4) (L := r.2.2) (by rw [bl_ba]; exact of_decide_eq_true (List.all_eq_true.1 rows_ok r hmem)) (by
   have : (rows.all fun r=> decide (r.2.1.length <= 1000)) = true := by decide +kernel
   have := of_decide_eq_true (List.all_eq_true.1 this r hmem)
   rw [ba_size]
   omega)).mono ?_
  rintro f w5 ⟨hf,e5⟩
  have H := H.keep e5
  refine (c_contains hf (by
   have : (rows.all fun r=> decide (r.2.2.length <= 1000)) = true := by decide +kernel
   have := of_decide_eq_true (List.all_eq_true.1 this r hmem)
   omega) name).mono ?_
  rintro b w5 ⟨rfl,rfl⟩
  refine Br.dec (fun q2=> ?_) fun q2=> ?_
  ·iterate 1 refine H.ld 0 rfl rfl ?_
   refine ⟨?_,e4.tr e5⟩
   congr 1
   exact (takesL_at rows i r hr hno q2).symm
  ·refine ⟨14 - (i + 1),by omega,i + 1,by rw [i64_id (by omega)]; rfl,by omega,rfl,e4.tr e5,fun j q' hj hq'=> ?_⟩
   by_cases e : j = i
   ·subst e
    rw [hr] at hq'
    cases hq'
    exact q2
   ·exact hno j q' (by omega) hq'
 ·have hi14 : i = 14 := by omega
  have : takes (bl name) = [63] := takesL_no rows fun j q' hq'=> hno j q' (by have := (List.getElem?_eq_some_iff.1 hq').1; have e : rows.length = 14 := rfl; omega) hq'
  rw [this]
  rfl
theorem c_fits (b : UInt8) (k : Int) (w : World) : C74 ((b.toNat : Nat) : Int) k w fun r w1=> r = fitsK b k /\ w1 = w := by
 refine T74 _ _ _ _ ?_
 unfold S74 fitsK
 have e : ∀ c : UInt8,(((b.toNat : Nat) : Int) = ((c.toNat : Nat) : Int)) ↔ b = c := fun c=> ⟨fun h=> UInt8.toNat_inj.1 (by omega),fun h=> by rw [h]⟩
 refine Br.eq (fun q=> ?_) fun q=> ?_
 ·rw [if_pos ((e 110).1 q)]
  refine Br.eq (fun q2=> ⟨by rw [q2]; rfl,rfl⟩) fun q2=> ⟨by simp [q2],rfl⟩
 rw [if_neg fun h=> q ((e 110).2 h)]
 refine Br.eq (fun q=> ?_) fun q=> ?_
 ·rw [if_pos ((e 115).1 q)]
  exact ⟨rfl,rfl⟩
 rw [if_neg fun h=> q ((e 115).2 h)]
 refine Br.eq (fun q=> ?_) fun q=> ?_
 ·rw [if_pos ((e 78).1 q)]
  exact ⟨rfl,rfl⟩
 rw [if_neg fun h=> q ((e 78).2 h)]
 refine Br.eq (fun q=> ?_) fun q=> ?_
 ·rw [if_pos ((e 97).1 q)]
  exact ⟨rfl,rfl⟩
 rw [if_neg fun h=> q ((e 97).2 h)]
 refine Br.eq (fun q=> ?_) fun q=> ?_
 ·rw [if_pos ((e 100).1 q)]
  exact ⟨rfl,rfl⟩
 rw [if_neg fun h=> q ((e 100).2 h)]
 exact ⟨rfl,rfl⟩
theorem byte_at {t : By} {i : Nat} (h : i < t.length) : t[i]? = some (t.getD i 0) := by
 rw [List.getD_eq_getElem?_getD,List.getElem?_eq_getElem h]
 rfl
theorem dec_at {t : By} {i : Nat} (h : i < t.length) (hb : (t.getD i 0).toNat < 128) : Utf8.decode (ba t) i = ((t.getD i 0).toNat,1) := by
 have hs : i < (ba t).size := by rw [ba_size]; exact h
 have e : (ba t)[i]'hs = t.getD i 0 := by
  rw [List.getD_eq_getElem?_getD,List.getElem?_eq_getElem h]
  rfl
 have := decode_ascii (ba t) i hs (by rw [e]; exact hb)
 rw [this,e]
theorem c_check {name data : ByteArray} {s : Slc} {L : List Ob} (h : AS w) (hL : OV w s L) (hlen : L.length <= 9223372036854775807) : C42 (name,s,data) w fun r w1=> r = chkF (bl name) L (bl data) /\ Ext (fun _=> False) w w1 := by
 refine T42 (name,s,data) _ _ ?_
 unfold S42
 refine (Hn.start w).nw fun w2 H=> ?_
 simp only [List.nil_append] at H
 iterate 1 refine H.ld 0 rfl rfl ?_
 refine (c_takes (h.keep H.ext) name).mono ?_
 rintro t w3 ⟨rfl,e3⟩
 have H := H.keep e3
 obtain ⟨tl1,tl2⟩ := takes_low (bl name)
 rw [eqB,bl_ba]
 unfold chkF
 refine Br.dec (fun q=> ⟨by rw [if_pos q],H.ext⟩) fun q=> ?_
 have q' : takes (bl name) ≠ [63] := q
 rw [if_neg q']
 iterate 1 refine H.ld 0 rfl rfl ?_
 rw [ba_size,hL.1]
 refine Br.ne (fun q2=> ⟨by rw [if_pos (by omega)],H.ext⟩) fun q2=> ?_
 rw [if_neg (c := List.length (takes (bl name)) ≠ List.length L) (by omega)]
 generalize ht : takes (bl name) = t at *
 refine Nw.of ?_
 have hb3 : w3.heap.size < (w3.alloc (.stringIter (ba t) 0)).heap.size := by simp
 have H4 := H.keep ((Ext.refl (fun _=> False) w3).alloc (.stringIter (ba t) 0))
 have hlt := H.lt 0 rfl
 refine ⟨fun n st w4=> ∃ i : Nat,i <= t.length /\ n = t.length - i /\ w4.heap[w3.heap.size]? = some (.stringIter (ba t) i) /\ Hn w w4 [(w.heap.size,[.string name,Slc.v s,.string data],48)] /\ ∀ j b o,j < i -> t[j]? = some b -> L[j]? = some o -> fitsK b o.1 = true,t.length,
  ⟨0,by omega,rfl,by show (w3.heap.push _)[w3.heap.size]? = _; simp,H4,fun j b o hj=> by omega⟩,?_⟩
 rintro n st w4 ⟨i,hi,rfl,hit,H,hall⟩
 unfold S42L1
 have hsz4 : w3.heap.size < w4.heap.size := (Array.getElem?_eq_some_iff.1 hit).1
 refine ⟨ba t,i,rfl,hit,?_⟩
 rw [ba_size]
 refine Br.dec (fun q3=> ?_) fun q3=> ?_
 ·rw [dec_at q3 (tl2 i q3)]
  have e5 := itW_ext w4 w3.heap.size (ba t) (i + 1)
  have H5 : Hn w (itW w4 w3.heap.size (ba t) (i + 1)) [(w.heap.size,[.string name,Slc.v s,.string data],48)] := H.other e5 fun j hj=> by subst hj; simp; omega
  have hit5 := itW_at (s := ba t) (p := i + 1) hsz4
  generalize itW w4 w3.heap.size (ba t) (i + 1) = w5 at *
  refine H5.ld 0 rfl rfl ?_
  obtain ⟨o,ho⟩ : ∃ o,L[i]? = some o := ⟨_,List.getElem?_eq_getElem (by omega)⟩
  obtain ⟨a,ha,c0,_⟩ := (hL.keep H5.ext).get ho
  rw [hL.1,ha,Int.toNat_natCast]
  refine ⟨by omega,by omega,Nn.of (Ld.mk c0 ((c_fits _ _ _).mono ?_))⟩
  rintro r w6 ⟨rfl,rfl⟩
  by_cases hf : fitsK (t.getD i 0) o.1 = true
  ·rw [hf]
   refine Br.f rfl ⟨t.length - (i + 1),by omega,i + 1,by omega,rfl,hit5,H5,fun j b o' hj hb ho'=> ?_⟩
   by_cases e : j = i
   ·subst e
    rw [byte_at q3] at hb
    rw [ho] at ho'
    cases hb; cases ho'
    exact hf
   ·exact hall j b o' (by omega) hb ho'
  ·have hf : fitsK (t.getD i 0) o.1 = false := by simpa using hf
   rw [hf]
   exact Br.t rfl ⟨by rw [if_pos (fitsT_no (byte_at q3) ho hf)],H5.ext⟩
 ·have hyes : fitsT t L = true := fitsT_yes fun j b o hb ho=> hall j b o (by have := (List.getElem?_eq_some_iff.1 hb).1; omega) hb ho
  rw [if_neg (by rw [hyes]; simp)]
  iterate 1 refine H.ld 0 rfl rfl ?_
  rw [eqB]
  have e0 : bl (⟨#[]⟩ : ByteArray) = [] := rfl
  have e1 : bl (⟨#[66,73]⟩ : ByteArray) = [66,73] := rfl
  rw [e0]
  by_cases hd : bl data = []
  ·rw [decide_eq_true hd,if_neg fun hh=> hh.1 hd]
   exact Br.f rfl ⟨rfl,H.ext⟩
  ·rw [decide_eq_false hd]
   refine Br.t rfl ?_
   iterate 1 refine H.ld 0 rfl rfl ?_
   rw [eqB,e1]
   by_cases hn : bl name = [66,73]
   ·rw [decide_eq_true hn,if_neg fun hh=> hh.2 hn]
    exact Br.f rfl ⟨rfl,H.ext⟩
   ·rw [decide_eq_false hn,if_pos ⟨hd,hn⟩]
    exact Br.t rfl ⟨rfl,H.ext⟩
end
end Opr
end Go.Proofs.YtcblpehnkogfdaaGreatDoor

/- Numbers among operands: their row, ops.Nums. Conditions: sizes. -/
namespace Go.Proofs.YtcblpehnkogfdaaGreatDoor
namespace Pat
open Sh Mat Fix Opr
set_option maxRecDepth 4000
set_option maxHeartbeats 4000000
def ints (l : List Int) : List Value := l.map fun x=> .int .i64 x
theorem elN : El Tryz.prog 25 2 1 8 (.int .i64 0) := ⟨by kernel_rfl,by kernel_rfl,by kernel_rfl,by kernel_rfl,rfl⟩
theorem ints_len (l : List Int) : (ints l).length = l.length := by unfold ints; simp
theorem ints_get {l : List Int} {i : Nat} (hi : i < l.length) : (ints l)[i]? = some (.int .i64 (l.getD i 0)) := by
 unfold ints
 rw [List.getElem?_map,List.getElem?_eq_getElem hi,List.getD_eq_getElem?_getD,List.getElem?_eq_getElem hi]
 rfl
theorem ints_app (l m : List Int) : ints (l ++ m) = ints l ++ ints m := by unfold ints; rw [List.map_append]
def IV (w : World) (s : Slc) (l : List Int) : Prop := s.len = l.length /\ VRow w s 1 (ints l)
section
variable {w w' w1 : World} {s : Slc} {l : List Int} {L K : List Ob}
theorem IV.keep (h : IV w s l) (he : Ext (fun _=> False) w w') : IV w' s l := ⟨h.1,h.2.keep he⟩
theorem IV.keepF {F : Nat -> Prop} (h : IV w s l) (he : Ext F w w') (hF : ∀ j,s.own j -> ¬ F j) : IV w' s l := ⟨h.1,h.2.keepF he hF⟩
theorem IV.get (h : IV w s l) {i : Nat} (hi : i < l.length) : ∃ a,s.p = some a /\ w.cell? (a.add (i * 1)) = some (.int .i64 (l.getD i 0)) := by
 obtain ⟨a,ha,hc⟩ := h.2.2 i _ (ints_get hi)
 exact ⟨a,ha,by rw [Nat.mul_one]; exact hc⟩
theorem IV.row {t : TypeId} (h : Row w s t 1 (ints l)) : IV w s l := by
 refine ⟨?_,h.view⟩
 have := h.1
 rw [ints_len] at this
 omega
theorem Ext.new {F : Nat -> Prop} {a b c : World} (h : Ext (fun _=> False) a b) (k : Ext F b c) (hF : ∀ j,F j -> a.heap.size <= j) : Ext (fun _=> False) a c :=
 h.trans k (fun _ h=> h) fun i hi hh=> absurd hi (by have := hF i hh; omega)
def IO (w0 w : World) (r : Slc) (l : List Int) : Prop := Row w r 2 1 (ints l) /\ ∀ j,r.own j -> w0.heap.size <= j
theorem IO.iv {w0 : World} {r : Slc} (h : IO w0 w r l) : IV w r l := IV.row h.1
theorem IO.nil (w0 w : World) : IO w0 w ⟨none,0,0⟩ [] := ⟨Row.nil _ _ _,fun j hj=> by obtain ⟨a,ha,_⟩ := hj; cases ha⟩
theorem IO.snoc {w0 : World} {r : Slc} {x : Int} {ty : TypeId} {K : Slc -> World -> Prop} (h : IO w0 w r l) (he : Ext (fun _=> False) w0 w) (hl : l.length <= 1000000)
  (k : ∀ r' w',IO w0 w' r' (l ++ [x]) -> Ext (fun _=> False) w0 w' -> K r' w') :
  Nw w (.cells #[.int .i64 x] 2) fun w2=> Rn Tryz.prog (Builtin.append_ #[25,25] ty #[Slc.v r,Slc.v (⟨some ⟨w.heap.size,0,none⟩,1,1⟩ : Slc)]) w2 Slc.v fun (r' : Slc) w3=> K r' w3 := by
 refine (Hn.start w).nw fun w2 H=> ?_
 have hb := H.get 0 rfl
 have e2 := H.ext
 have hlen := h.iv.1
 obtain ⟨s',w',r1,r2,r3,r4,r5⟩ := elN.app1 (ty := ty) (ys := [.int .i64 x]) (h.1.keep e2 fun _ _ e=> e) hb rfl (by intro v hv; rw [List.mem_singleton.1 hv]; rfl) (by omega) (by omega)
 have E2 := he.tr e2
 refine ⟨s',w',r1,k s' w' ⟨by rw [ints_app]; exact r2,fun j hj=> ?_⟩ (Ext.new E2 r4 h.2)⟩
 have := E2.size
 rcases r5 j hj with hh | hh
 ·exact h.2 j hh
 ·omega
end
def nmO : List Ob -> Option (List Int)
 | []=> some []
 | o :: r=> (numV o).bind fun n=> (nmO r).bind fun l=> some (n :: l)
theorem nmO_len : ∀ {L : List Ob} {l : List Int},nmO L = some l -> l.length = L.length
 | [],l,h=> by cases h; rfl
 | o :: r,l,h=> by
  unfold nmO at h
  cases hn : numV o with
  | none=> rw [hn] at h; cases h
  | some n=>
   rw [hn,Option.bind_some] at h
   cases hr : nmO r with
   | none=> rw [hr] at h; cases h
   | some l'=>
    rw [hr,Option.bind_some] at h
    cases h
    rw [List.length_cons,List.length_cons,nmO_len hr]
def nmAt (L : List Ob) (i : Nat) (l : List Int) : Option (List Int) := (nmO (L.drop i)).bind fun r=> some (l ++ r)
theorem nmAt_0 (L : List Ob) : nmAt L 0 [] = nmO L := by
 unfold nmAt
 rw [List.drop_zero]
 cases nmO L <;> rfl
theorem nmAt_end (L : List Ob) (l : List Int) : nmAt L L.length l = some l := by
 unfold nmAt
 rw [List.drop_length]
 simp [nmO]
theorem nmAt_no {L : List Ob} {i : Nat} (hi : i < L.length) (l : List Int) (hn : numV L[i] = none) : nmAt L i l = none := by
 unfold nmAt
 rw [List.drop_eq_getElem_cons hi]
 conv=> lhs; unfold nmO
 rw [hn]
 rfl
theorem nmAt_yes {L : List Ob} {i : Nat} (hi : i < L.length) (l : List Int) {n : Int} (hn : numV L[i] = some n) : nmAt L i l = nmAt L (i + 1) (l ++ [n]) := by
 unfold nmAt
 rw [List.drop_eq_getElem_cons hi]
 conv=> lhs; unfold nmO
 rw [hn]
 cases nmO (L.drop (i + 1)) with
 | none=> rfl
 | some r=> simp
section
variable {w0 w w' w1 : World} {s : Slc} {L : List Ob} {a d : ByteArray}
attribute [local irreducible] Ld Sh.St Nw Nn LdS
theorem c_nums (h : OV w s L) (hl : L.length <= 100000) (hk : ∀ o ∈ L,o.1 = 2 \/ o.1 = 3) : C76 (a,s,d) w fun r e w1=> Ext (fun _=> False) w w1 /\ match nmO L with
  | none=> e = 2
  | some l=> e = 0 /\ IO w w1 r l := by
 refine T76 (a,s,d) _ _ ?_
 unfold S76
 refine (Hn.start w).nw fun w2 H=> ?_
 simp only [List.nil_append,add_lit,Nat.zero_add] at H ⊢
 have hlen := h.1
 refine H.ld 0 rfl rfl ?_
 refine ⟨fun n st w3=> ∃ (i : Nat) (l : List Int),st.2 = (i : Int) /\ i <= L.length /\ n = L.length - i /\ l.length <= i /\ IO w w3 st.1 l /\ Ext (fun _=> False) w w3 /\ nmO L = nmAt L i l,L.length,⟨0,[],rfl,by omega,rfl,Nat.le_refl _,IO.nil _ _,H.ext,(nmAt_0 L).symm⟩,?_⟩
 clear H
 rintro n ⟨r,st⟩ w3 ⟨i,l,hst,hi,rfl,hll,ho,e3,hn⟩
 simp only at hst ho
 subst hst
 unfold S76L1
 dsimp only
 rw [hlen]
 refine Br.dec (fun q=> ⟨by omega,by omega,?_⟩) fun q=> ?_
 ·have hlt : i < L.length := by omega
  have hLi : L[i]? = some L[i] := List.getElem?_eq_getElem hlt
  obtain ⟨ad,ha,c0,c1,c2,c3,c4,c5⟩ := (h.keep e3).get hLi
  have hkk := hk L[i] (List.getElem_mem hlt)
  rw [ha,Int.toNat_natCast]
  refine Nn.of (Ld.mk c0 (Ld.mk c1 (Ld.mk c2 (Ld.mk c3 (Ld.mk c4 (Ld.mk c5 ?_))))))
  refine (Hn.start w3).nw fun w4 H=> ?_
  simp only [List.nil_append,add_lit,Nat.zero_add] at H ⊢
  iterate 6 (refine H.st 0 rfl (by simp) fun _ H=> ?_; simp only [List.set_cons_zero,List.set_cons_succ] at H)
  have num : ∀ (B : World -> Prop) (K : Slc -> World -> Prop) (v : World),Ext (fun _=> False) w3 v -> (numV L[i] = none -> ∀ w5,Ext (fun _=> False) w w5 -> B w5) -> (∀ x r' w5,numV L[i] = some x -> IO w w5 r' (l ++ [x]) -> Ext (fun _=> False) w w5 -> K r' w5) ->
    C114 (L[i].1,L[i].2.1,L[i].2.2.1,L[i].2.2.2.1,L[i].2.2.2.2.1,L[i].2.2.2.2.2) v fun r28 r29 vw30=> Br (!r29) (B vw30) (Nw vw30 (.cells #[.int .i64 r28] 2) fun vw31=>
      Rn Tryz.prog (Builtin.append_ #[25,25] 25 #[Slc.v r,Slc.v ((⟨some ⟨vw30.heap.size,0,none⟩,1,1⟩ : Slc))]) vw31 Slc.v fun (x32 : Slc) vw33=> K x32 vw33) := by
   intro B K v ev k1 k2
   refine (c_number L[i] v).mono ?_
   rintro x ok w5 ⟨hv,e5⟩
   have e35 := ev.tr e5
   cases hx : numV L[i] with
   | none=>
    rw [hx] at hv
    cases hv
    exact Br.t rfl (k1 hx w5 (e3.tr e35))
   | some y=>
    rw [hx] at hv
    cases hv
    exact Br.f rfl (IO.snoc (w0 := w) ⟨ho.1.keep e35 fun _ _ e=> e,ho.2⟩ (e3.tr e35) (by omega) fun r' w' ho' e'=> k2 x r' w' hx ho' e')
  have hw : IntKind.i64.wrap ((i : Int) + 1) = ((i + 1 : Nat) : Int) := by rw [i64_id (by omega)]; rfl
  rw [hw]
  have rest : ∀ x r' w5,numV L[i] = some x -> IO w w5 r' (l ++ [x]) -> Ext (fun _=> False) w w5 -> ∃ m',m' < L.length - i /\ ∃ (k : Nat) (l' : List Int),((i + 1 : Nat) : Int) = (k : Int) /\ k <= L.length /\ m' = L.length - k /\ l'.length <= k /\ IO w w5 r' l' /\ Ext (fun _=> False) w w5 /\ nmO L = nmAt L k l' := fun x r' w5 hx ho' e'=>
   ⟨L.length - (i + 1),by omega,i + 1,l ++ [x],rfl,by omega,rfl,by rw [List.length_append,List.length_singleton]; omega,ho',e',hn.trans (nmAt_yes hlt l hx)⟩
  refine H.ld 0 rfl rfl (Br.ne (fun q2=> H.ld 0 rfl rfl (Br.ne (fun q3=> (hkk.elim q2 q3).elim) fun q3=> ?_)) fun q2=> ?_)
  ·iterate 6 refine H.ld 0 rfl rfl ?_
   exact num _ _ _ H.ext (fun hx w5 e5=> by rw [hn,nmAt_no hlt l hx]; exact ⟨e5,by trivial⟩) rest
  ·iterate 6 refine H.ld 0 rfl rfl ?_
   exact num _ _ _ H.ext (fun hx w5 e5=> by rw [hn,nmAt_no hlt l hx]; exact ⟨e5,by trivial⟩) rest
 ·have : i = L.length := by omega
  subst this
  rw [nmAt_end] at hn
  rw [hn]
  exact ⟨e3,by trivial,ho⟩
end
end Pat
end Go.Proofs.YtcblpehnkogfdaaGreatDoor

/- Inflate: lives; InflateTells and InflateCovers: the walks. Conditions: the laid variables. -/
import Derived.Test.YtapgacggllbhiaaDoorInO
import Derived.Test.YtapgacggllbhiaaDoorFnLawI
namespace Go.Proofs.YtapgacggllbhiaaDoor
namespace Inf
open Sh Bit
set_option linter.unusedVariables false
set_option linter.unusedSimpArgs false
set_option maxRecDepth 100000
set_option maxHeartbeats 2000000
theorem lv1 : allR ⟨#[1, 2, 0, 253, 255, 97, 98]⟩ 10 = (⟨#[97, 98]⟩, 7, 0) := by decide +kernel
theorem lv2 : allR ⟨#[75, 4, 0]⟩ 1 = (⟨#[97]⟩, 3, 0) := by decide +kernel
theorem lv3 : allR ⟨#[75, 4, 0]⟩ 0 = (⟨#[]⟩, 0, 5) := by decide +kernel
theorem lv4 : allR ⟨#[7]⟩ 10 = (⟨#[]⟩, 0, 3) := by decide +kernel
theorem lv5 : allR ⟨#[]⟩ 10 = (⟨#[]⟩, 0, 4) := by decide +kernel
theorem lv6 : allR ⟨#[1, 2, 0, 253, 254, 97, 98]⟩ 10 = (⟨#[]⟩, 0, 3) := by decide +kernel
theorem lv7 : allR ⟨#[]⟩ (-1) = (⟨#[]⟩, 0, 1) := by decide +kernel
attribute [local irreducible] Ld St Nw Nn Lt LdS
section
variable {w : World} {N : Nat}
theorem Laid.no {N : Nat} {w w' : World} (h : Laid N w) (he : Ext (fun _ => False) w w') : Laid N w' := h.keep he fun _ e => e.elim
theorem c_lives (hL : Laid N w) : C8 w (fun r w1 => r = true ∧ Ext (fun _ => False) w w1) fun _ _ => False := by
  refine T8 _ _ _ ?_
  unfold S8
  refine (c_All (N := N) (s := ⟨#[1, 2, 0, 253, 255, 97, 98]⟩) (by decide) hL 10).mono ?_
  rintro d1 n1 x1 w1 ⟨h1, e1⟩
  rw [lv1] at h1
  cases h1
  refine (c_All (N := N) (s := ⟨#[75, 4, 0]⟩) (by decide) (hL.no e1) 1).mono ?_
  rintro d2 n2 x2 w2 ⟨h2, e2⟩
  rw [lv2] at h2
  cases h2
  have E2 := e1.tr e2
  refine (c_All (N := N) (s := ⟨#[75, 4, 0]⟩) (by decide) (hL.no E2) 0).mono ?_
  rintro d3 n3 x3 w3 ⟨h3, e3⟩
  rw [lv3] at h3
  cases h3
  have E3 := E2.tr e3
  refine (c_All (N := N) (s := ⟨#[7]⟩) (by decide) (hL.no E3) 10).mono ?_
  rintro d4 n4 x4 w4 ⟨h4, e4⟩
  rw [lv4] at h4
  cases h4
  have E4 := E3.tr e4
  refine (c_All (N := N) (s := ⟨#[]⟩) (by decide) (hL.no E4) 10).mono ?_
  rintro d5 n5 x5 w5 ⟨h5, e5⟩
  rw [lv5] at h5
  cases h5
  have E5 := E4.tr e5
  refine (c_All (N := N) (s := ⟨#[1, 2, 0, 253, 254, 97, 98]⟩) (by decide) (hL.no E5) 10).mono ?_
  rintro d6 n6 x6 w6 ⟨h6, e6⟩
  rw [lv6] at h6
  cases h6
  have E6 := E5.tr e6
  refine (c_All (N := N) (s := ⟨#[]⟩) (by decide) (hL.no E6) (-1)).mono ?_
  rintro d7 n7 x7 w7 ⟨h7, e7⟩
  rw [lv7] at h7
  cases h7
  have E7 := E6.tr e7
  refine (c_Size 284 31 w7).mono ?_
  rintro r1 y1 w8 ⟨g1, e8⟩
  rw [show sizeF 284 31 = (258, 0) by decide +kernel] at g1
  cases g1
  refine (c_Size 285 0 w8).mono ?_
  rintro r2 y2 w9 ⟨g2, e9⟩
  rw [show sizeF 285 0 = (258, 0) by decide +kernel] at g2
  cases g2
  refine (c_Size 285 1 w9).mono ?_
  rintro r3 y3 w10 ⟨g3, e10⟩
  rw [show sizeF 285 1 = (0, 1) by decide +kernel] at g3
  cases g3
  refine (c_Far 29 8191 w10).mono ?_
  rintro r4 y4 w11 ⟨g4, e11⟩
  rw [show farF 29 8191 = (32768, 0) by decide +kernel] at g4
  cases g4
  refine (c_Far 30 0 w11).mono ?_
  rintro r5 y5 w12 ⟨g5, e12⟩
  rw [show farF 30 0 = (0, 1) by decide +kernel] at g5
  cases g5
  refine (c_Fixed w12).mono ?_ fun _ _ h => h
  rintro a b w13 ⟨va, vb, e13⟩
  have E13 := E7.tr (e8.tr (e9.tr (e10.tr (e11.tr (e12.tr e13)))))
  have la : a.len = 288 := by rw [va.1]; decide +kernel
  have lb : b.len = 32 := by rw [vb.1]; decide +kernel
  obtain ⟨a1, ha1, k1⟩ := va.get (i := 143) (by decide +kernel)
  obtain ⟨a2, ha2, k2⟩ := va.get (i := 144) (by decide +kernel)
  obtain ⟨a3, ha3, k3⟩ := va.get (i := 256) (by decide +kernel)
  obtain ⟨a4, ha4, k4⟩ := va.get (i := 287) (by decide +kernel)
  obtain ⟨a5, ha5, k5⟩ := vb.get (i := 31) (by decide +kernel)
  rw [ha1] at ha2 ha3 ha4
  cases ha2; cases ha3; cases ha4
  rw [show fixL.getD 143 0 = 8 by decide +kernel] at k1
  rw [show fixL.getD 144 0 = 9 by decide +kernel] at k2
  rw [show fixL.getD 256 0 = 7 by decide +kernel] at k3
  rw [show fixL.getD 287 0 = 8 by decide +kernel] at k4
  rw [show fixD.getD 31 0 = 5 by decide +kernel] at k5
  rw [la, lb, ha1, ha5]
  refine Br.f (by decide +kernel) (Br.f (by decide) (Br.f (by decide) (Br.f (by decide +kernel) (Br.f (by decide) (Br.f (by decide) (Br.f (by decide) (Br.f (by decide) (Br.f (by decide) (Br.f (by decide) (Br.f (by decide) ?_))))))))))
  repeat' (first | refine Br.t rfl ?_ | refine ⟨by decide, by decide, Nn.of ?_⟩ | refine Ld.mk k1 ?_ | refine Ld.mk k2 ?_ | refine Ld.mk k3 ?_ | refine Ld.mk k4 ?_ | refine Ld.mk k5 ?_)
  exact ⟨rfl, E13⟩
theorem tells_law (hL : Laid N w) (s : ByteArray) {most sign more : Int} : C3 s most sign more w (fun r w1 => r = true ∧ Ext (fun _ => False) w w1) fun _ _ => False := by
  refine T3 _ _ _ _ _ _ _ ?_
  unfold S3
  refine Br.dec (fun _ => c_lives hL) fun hs => ?_
  refine (c_All (N := N) (s := s) (by omega) hL most).mono ?_
  rintro d1 n1 x1 w1 ⟨h1, e1⟩
  refine (r_All (s := s) (by omega) most w1).mono ?_
  rintro d2 n2 x2 w2 ⟨h2, e2⟩
  have h12 := h1.trans h2.symm
  simp only [Prod.mk.injEq] at h12
  obtain ⟨rfl, rfl, rfl⟩ := h12
  refine (c_Size sign more w2).mono ?_
  rintro r1 y1 w3 ⟨g1, e3⟩
  refine (r_Size sign more w3).mono ?_
  rintro r2 y2 w4 ⟨g2, e4⟩
  obtain ⟨rfl, rfl⟩ := Prod.mk.inj (g1.trans g2.symm)
  refine (c_Far sign more w4).mono ?_
  rintro r3 y3 w5 ⟨g3, e5⟩
  refine (r_Far sign more w5).mono ?_
  rintro r4 y4 w6 ⟨g4, e6⟩
  obtain ⟨rfl, rfl⟩ := Prod.mk.inj (g3.trans g4.symm)
  refine (c_Fixed w6).mono ?_ fun _ _ h => h
  rintro a b w7 ⟨va, vb, e7⟩
  refine (r_Fixed w7).mono ?_
  rintro a2 b2 w8 ⟨va2, vb2, e8, _, _⟩
  refine Br.t (by simp) (Br.t (by simp) (Br.t (by simp) (Br.t (by simp) (Br.t (by simp) (Br.t (by simp) (Br.t (by simp) ?_))))))
  have hl : fixL.length ≤ 1000000 := by decide +kernel
  have hd : fixD.length ≤ 1000000 := by decide +kernel
  refine (r_same (va.keep e8) va2 hl).mono ?_
  rintro r w9 ⟨rfl, e9⟩
  refine Br.t rfl ((r_same ((vb.keep e8).keep e9) (vb2.keep e9) hd).mono ?_)
  rintro r w10 ⟨rfl, e10⟩
  have E := e1.tr (e2.tr (e3.tr (e4.tr (e5.tr (e6.tr (e7.tr (e8.tr (e9.tr e10))))))))
  refine Br.t rfl ((c_lives (hL.no E)).mono ?_ fun _ _ h => h)
  rintro r w11 ⟨rfl, e11⟩
  exact ⟨rfl, E.tr e11⟩
end
end Inf
end Go.Proofs.YtapgacggllbhiaaDoor

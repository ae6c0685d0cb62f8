/- Hints: HintTells: the walk. Conditions: the number is an int. -/
import Derived.Test.YtjlaijhmnlkpiaaHbH
import Derived.Test.YtjlaijhmnlkpiaaHiU
import Derived.Test.YtjlaijhmnlkpiaaFnLawT
namespace Go.Proofs.Ytjlaijhmnlkpiaa
namespace Hint
open Sh Bit
set_option linter.unusedVariables false
set_option linter.unusedSimpArgs false
set_option maxRecDepth 100000
set_option maxHeartbeats 2000000
attribute [local irreducible] Ld St Nw Nn Lt LdS
theorem told_same {w1 : World} {s : ByteArray} {a b : Slc} {e f : Int} (h : Told w1 s a e) (k : Told w1 s b f) : e = f ∧ ∃ L : List Hi, HV w1 a L ∧ HV w1 b L ∧ L.length ≤ 2048 := by
  rcases h with ⟨h1, h2, h3⟩ | ⟨h1, L, h2, h3⟩
  · obtain ⟨k1, k2⟩ := k.bad h3
    refine ⟨by rw [h1, k1], [], by rw [h2]; exact hv_nil _, by rw [k2]; exact hv_nil _, by simp⟩
  · obtain ⟨k1, k2⟩ := k.good h3
    exact ⟨by rw [h1, k1], L, h2, k2, h3.vd.n1⟩
theorem Told.keep {w1 w2 : World} {s : ByteArray} {a : Slc} {e : Int} (h : Told w1 s a e) (he : Ext (fun _ => False) w1 w2) : Told w2 s a e := by
  rcases h with h | ⟨h1, L, h2, h3⟩
  · exact .inl h
  · exact .inr ⟨h1, L, h2.keep he, h3⟩
theorem tells_law {l : Slc} {L : List Hi} (s : ByteArray) {n : Int} (w : World) (hv : HV w l L) (hn : -9223372036854775808 ≤ n ∧ n ≤ 9223372036854775807) : C8 l s n w fun r w1 => r = true ∧ Ext (fun _ => False) w w1 := by
  refine T8 _ _ _ _ _ ?_
  unfold S8
  have lv : C37 w fun r w1 => r = true ∧ Ext (fun _ => False) w w1 := c_lives w
  refine ⟨fun _ w1 => w1 = w ∧ s.size ≤ 3000, ?_, ?_⟩
  case refine_2 =>
    refine Br.dec (fun _ => Br.dec (fun _ => lv) fun _ => Br.dec (fun _ => lv) fun _ => Br.dec (fun _ => lv) fun h => ⟨rfl, by omega⟩) fun _ => Br.dec (fun _ => lv) fun _ => Br.dec (fun _ => lv) fun h => ⟨rfl, by omega⟩
  rintro _ _ ⟨rfl, hs⟩
  unfold S8J1
  refine (c_text hv).mono ?_
  rintro a e1 w1 ⟨h1, x1⟩
  refine (r_text (hv.keep x1)).mono ?_
  rintro b e2 w2 ⟨h2, x2⟩
  obtain ⟨rfl, rfl⟩ := Prod.mk.inj (h1.trans h2.symm)
  refine (c_read (s := s) (by omega) _).mono ?_
  rintro c e3 w3 ⟨h3, x3⟩
  refine (r_read (s := s) (by omega) _).mono ?_
  rintro d e4 w4 ⟨h4, x4⟩
  obtain ⟨rfl, M, m1, m2, m3⟩ := told_same (h3.keep x4) h4
  refine Br.t (by simp) (Br.t (by simp) ((c_same m1 m2 (by omega)).mono ?_))
  rintro r w5 ⟨rfl, x5⟩
  refine Br.t rfl (Br.t (by simp) ((c_need hn _).mono ?_))
  rintro r _ ⟨rfl, rfl⟩
  refine (r_need hn.2 _).mono ?_
  rintro r _ ⟨rfl, rfl⟩
  refine Br.t (by simp) ((c_lives _).mono ?_)
  rintro r w6 ⟨rfl, x6⟩
  exact ⟨rfl, x1.tr (x2.tr (x3.tr (x4.tr (x5.tr x6))))⟩
end Hint
end Go.Proofs.Ytjlaijhmnlkpiaa

/- Order's laws: blank, by bytes. Condition: the size. -/
import Derived.Test.YtodhdkbhmkinjaaDoorOsQ
namespace Go.Proofs.YtodhdkbhmkinjaaDoor
namespace Rdg
open Sh
set_option linter.unusedVariables false
set_option linter.unusedSimpArgs false
set_option maxRecDepth 4000
set_option maxHeartbeats 2000000
attribute [local irreducible] Ld St Nw Nn Lt LdS
theorem c_blankB {s : ByteArray} (hs : s.size ≤ 9223372036854775807 - 1) (w : World) : C20 s w fun r w1 => r = blankL s.data.toList ∧ w1 = w := by
  refine T20 _ _ _ ?_
  unfold S20
  have hsl : s.data.toList.length = s.size := Array.length_toList
  refine ⟨fun m st w1 => ∃ i : Nat, st = (i : Int) ∧ i ≤ s.size ∧ m = s.size - i ∧ blankL (s.data.toList.drop i) = blankL s.data.toList ∧ w1 = w, s.size, ⟨0, rfl, Nat.zero_le _, rfl, rfl, rfl⟩, ?_⟩
  rintro m st w3 ⟨i, rfl, hi, rfl, hb, rfl⟩
  unfold S20L1
  refine Br.dec (fun q => ?_) fun q => ?_
  · have hil : i < s.data.toList.length := by omega
    have hbt := bAt_list s i
    rw [List.getD_eq_getElem?_getD, List.getElem?_eq_getElem hil, Option.getD_some] at hbt
    rw [List.drop_eq_getElem_cons hil] at hb
    generalize s.data.toList[i] = c at *
    rw [hbt]
    have hcs : blankL (c :: s.data.toList.drop (i + 1)) = (isWs c && blankL (s.data.toList.drop (i + 1))) := rfl
    rw [hcs] at hb
    have ne : ∀ k : UInt8, (((c.toNat : Int) != (k.toNat : Int)) = !(c == k)) := fun k => by
      by_cases e : c = k
      · subst e
        show (!((c.toNat : Int) == (c.toNat : Int))) = _
        rw [beq_self_eq_true, beq_self_eq_true]
      · have h1 : ((c.toNat : Int) == (k.toNat : Int)) = false := beq_false_of_ne fun h => e (UInt8.toNat_inj.1 (by omega))
        show (!((c.toNat : Int) == (k.toNat : Int))) = _
        rw [h1, beq_false_of_ne e]
    have n9 := ne 9
    have n10 := ne 10
    have n13 := ne 13
    have n32 := ne 32
    have next : isWs c = true → ∃ n', n' < s.size - i ∧ ∃ i_1 : Nat, IntKind.i64.wrap ((i : Int) + 1) = (i_1 : Int) ∧ i_1 ≤ s.size ∧ n' = s.size - i_1 ∧ blankL (s.data.toList.drop i_1) = blankL s.data.toList ∧ w3 = w3 := fun h =>
      ⟨s.size - (i + 1), by omega, i + 1, by rw [i64_id (by omega)]; rfl, by omega, rfl, by rw [← hb, h, Bool.true_and], rfl⟩
    have b1 : (0 : Int) ≤ (i : Int) := by omega
    have b2 : (i : Int) < ((s.size : Nat) : Int) := by omega
    refine ⟨b1, b2, ?_⟩
    cases h9 : (c == 9) with
    | true => exact Br.f (by rw [show (9 : Int) = ((9 : UInt8).toNat : Int) from rfl, n9, h9]; rfl) (next (by unfold isWs; rw [h9]; rfl))
    | false =>
    refine Br.t (by rw [show (9 : Int) = ((9 : UInt8).toNat : Int) from rfl, n9, h9]; rfl) ⟨b1, b2, ?_⟩
    cases h10 : (c == 10) with
    | true => exact Br.f (by rw [show (10 : Int) = ((10 : UInt8).toNat : Int) from rfl, n10, h10]; rfl) (next (by unfold isWs; rw [h9, h10]; rfl))
    | false =>
    refine Br.t (by rw [show (10 : Int) = ((10 : UInt8).toNat : Int) from rfl, n10, h10]; rfl) ⟨b1, b2, ?_⟩
    cases h13 : (c == 13) with
    | true => exact Br.f (by rw [show (13 : Int) = ((13 : UInt8).toNat : Int) from rfl, n13, h13]; rfl) (next (by unfold isWs; rw [h9, h10, h13]; rfl))
    | false =>
    refine Br.t (by rw [show (13 : Int) = ((13 : UInt8).toNat : Int) from rfl, n13, h13]; rfl) ⟨b1, b2, ?_⟩
    cases h32 : (c == 32) with
    | true => exact Br.f (by rw [show (32 : Int) = ((32 : UInt8).toNat : Int) from rfl, n32, h32]; rfl) (next (by unfold isWs; rw [h9, h10, h13, h32]; rfl))
    | false =>
    refine Br.t (by rw [show (32 : Int) = ((32 : UInt8).toNat : Int) from rfl, n32, h32]; rfl) ⟨?_, rfl⟩
    have : isWs c = false := by unfold isWs; rw [h9, h10, h13, h32]; rfl
    rw [← hb, this]
    rfl
  · have : i = s.data.toList.length := by omega
    subst this
    rw [List.drop_length] at hb
    exact ⟨hb, rfl⟩
end Rdg
end Go.Proofs.YtodhdkbhmkinjaaDoor

/- Strings and their characters, as 16-bit units and back. Plain; no condition. -/
import Derived.Lib.MapLaws
import Derived.Lib.ValidLaws
namespace Go.Proofs.YtcblpehnkogfdaaGreatDoor
namespace Ut
open Go.Lib
set_option linter.unusedVariables false
set_option linter.unusedSimpArgs false
/-- The characters of a string. -/
def runesF : Nat → List UInt8 → List Nat
  | 0, _ => []
  | n + 1, l => if l = [] then [] else (decodeL l).1 :: runesF n (l.drop (decodeL l).2)
def runes (l : List UInt8) : List Nat := runesF l.length l
theorem runesF_nil : ∀ n, runesF n [] = []
  | 0 => rfl
  | _ + 1 => by simp [runesF]
theorem runesF_fuel : ∀ (n m : Nat) (l : List UInt8), l.length ≤ n → l.length ≤ m → runesF n l = runesF m l
  | 0, m, l, hn, _ => by
    have : l = [] := List.eq_nil_of_length_eq_zero (by omega)
    subst this
    rw [runesF_nil, runesF_nil]
  | n + 1, 0, l, _, hm => by
    have : l = [] := List.eq_nil_of_length_eq_zero (by omega)
    subst this
    rw [runesF_nil, runesF_nil]
  | n + 1, m + 1, l, hn, hm => by
    unfold runesF
    split
    · rfl
    · have h1 := decodeL_width l
      rw [runesF_fuel n m _ (by rw [List.length_drop]; omega) (by rw [List.length_drop]; omega)]
theorem runes_nil : runes [] = [] := rfl
theorem runes_step {l : List UInt8} (hne : l ≠ []) : runes l = (decodeL l).1 :: runes (l.drop (decodeL l).2) := by
  have h1 := decodeL_width l
  unfold runes
  have hl : 0 < l.length := List.length_pos_iff.2 hne
  obtain ⟨n, hn⟩ : ∃ n, l.length = n + 1 := ⟨l.length - 1, by omega⟩
  conv => lhs; rw [hn]
  show (if l = [] then [] else (decodeL l).1 :: runesF n (l.drop (decodeL l).2)) = _
  rw [if_neg hne, runesF_fuel n _ _ (by rw [List.length_drop]; omega) (Nat.le_refl _)]
theorem rune_scalar (l : List UInt8) : (decodeL l).1 < 55296 ∨ (57344 ≤ (decodeL l).1 ∧ (decodeL l).1 ≤ 1114111) := by
  have k0 := (l.getD 0 0).toNat_lt
  have k1 := (l.getD 1 0).toNat_lt
  rw [decodeL_N]
  generalize (l.getD 0 0).toNat = b0 at *
  generalize (l.getD 1 0).toNat = b1 at *
  generalize (l.getD 2 0).toNat = b2
  generalize (l.getD 3 0).toNat = b3
  unfold decodeN
  repeat' split
  all_goals dsimp only
  all_goals omega
theorem runes_ind {p : List UInt8 → Prop} (h0 : p []) (h1 : ∀ l, l ≠ [] → p (l.drop (decodeL l).2) → p l) : ∀ l, p l := by
  have key : ∀ (n : Nat) (l : List UInt8), l.length ≤ n → p l := by
    intro n
    induction n with
    | zero =>
      intro l hl
      have : l = [] := List.eq_nil_of_length_eq_zero (by omega)
      subst this
      exact h0
    | succ n ih =>
      intro l hl
      by_cases hne : l = []
      · subst hne
        exact h0
      · have := decodeL_width l
        exact h1 l hne (ih _ (by rw [List.length_drop]; omega))
  exact fun l => key l.length l (Nat.le_refl _)
theorem runes_scalar : ∀ l : List UInt8, ∀ c ∈ runes l, c < 55296 ∨ (57344 ≤ c ∧ c ≤ 1114111) :=
  runes_ind (fun c hc => by cases hc) fun l hne ih c hc => by
    rw [runes_step hne] at hc
    rcases List.mem_cons.1 hc with rfl | hc
    · exact rune_scalar l
    · exact ih c hc
/-- One character's units. -/
def u16 (c : Nat) : List Nat := if 65535 < c then [55296 + (c - 65536) / 1024, 56320 + (c - 65536) % 1024] else [c]
def unitsL (l : List UInt8) : List Nat := (runes l).flatMap u16
/-- The characters of units; none where a unit stands alone that may not. -/
def backF : Nat → List Nat → Option (List Nat)
  | 0, _ => some []
  | _ + 1, [] => some []
  | n + 1, u :: r => if 56320 ≤ u ∧ u ≤ 57343 then none else if 55296 ≤ u ∧ u ≤ 56319 then (match r with
      | [] => none
      | v :: q => if v < 56320 ∨ 57343 < v then none else (backF n q).map fun t => (65536 + 1024 * (u - 55296) + (v - 56320)) :: t)
    else (backF n r).map (u :: ·)
def back (l : List Nat) : Option (List Nat) := backF l.length l
theorem backF_units : ∀ (cs : List Nat) (n : Nat), (∀ c ∈ cs, c < 55296 ∨ (57344 ≤ c ∧ c ≤ 1114111)) → (cs.flatMap u16).length ≤ n → backF n (cs.flatMap u16) = some cs
  | [], n, _, _ => by cases n <;> rfl
  | c :: cs, n, hc, hn => by
    have h := hc c List.mem_cons_self
    rw [List.flatMap_cons, List.length_append] at hn
    have hu : 1 ≤ (u16 c).length := by unfold u16; split <;> simp
    obtain ⟨n, rfl⟩ : ∃ k, n = k + 1 := ⟨n - 1, by omega⟩
    have ih := fun h2 => backF_units cs n (fun x hx => hc x (List.mem_cons_of_mem _ hx)) h2
    rw [List.flatMap_cons]
    unfold u16
    by_cases h2 : 65535 < c
    · have hl : (u16 c).length = 2 := by unfold u16; rw [if_pos h2]; rfl
      rw [if_pos h2]
      show backF (n + 1) ((55296 + (c - 65536) / 1024) :: (56320 + (c - 65536) % 1024) :: cs.flatMap u16) = _
      unfold backF
      rw [if_neg (by omega), if_pos (by omega)]
      dsimp only
      rw [if_neg (by omega), ih (by omega)]
      have e : 65536 + 1024 * (55296 + (c - 65536) / 1024 - 55296) + (56320 + (c - 65536) % 1024 - 56320) = c := by omega
      rw [e]
      rfl
    · have hl : (u16 c).length = 1 := by unfold u16; rw [if_neg h2]; rfl
      rw [if_neg h2]
      show backF (n + 1) (c :: cs.flatMap u16) = _
      unfold backF
      rw [if_neg (by omega), if_neg (by omega), ih (by omega)]
      rfl
theorem back_units (l : List UInt8) : back (unitsL l) = some (runes l) := backF_units _ _ (runes_scalar l) (Nat.le_refl _)
theorem enc_bad : encodeRune (65533 : Int) = [239, 191, 189] := by decide
/-- The characters, written again, are the string itself where it is valid, and only there. -/
theorem enc_runes : ∀ l : List UInt8, ((runes l).flatMap fun (c : Nat) => encodeRune (c : Int)) = l ↔ validD l = true :=
  runes_ind ⟨fun _ => rfl, fun _ => rfl⟩ fun l hne ih => by
    rw [validD_step l hne, runes_step hne, List.flatMap_cons]
    by_cases hb : (decodeL l).1 = 65533 ∧ (decodeL l).2 = 1
    · rw [if_pos hb]
      refine ⟨fun h => ?_, fun h => by cases h⟩
      rw [hb.1] at h
      have e3 : l = 239 :: 191 :: 189 :: (l.drop 3) := by
        have h2 : l = [239, 191, 189] ++ ((runes (l.drop (decodeL l).2)).flatMap fun (c : Nat) => encodeRune (c : Int)) := by
          conv => lhs; rw [← h]
          rfl
        generalize ((runes (l.drop (decodeL l).2)).flatMap fun (c : Nat) => encodeRune (c : Int)) = z at h2
        subst h2
        rfl
      have : decodeL l = (65533, 3) := by
        rw [decodeL_N, e3]
        generalize l.drop 3 = z
        have hz : ((239 :: 191 :: 189 :: z : List UInt8).length) = z.length + 3 := rfl
        rw [hz]
        have g0 : ((239 :: 191 :: 189 :: z : List UInt8).getD 0 0).toNat = 239 := rfl
        have g1 : ((239 :: 191 :: 189 :: z : List UInt8).getD 1 0).toNat = 191 := rfl
        have g2 : ((239 :: 191 :: 189 :: z : List UInt8).getD 2 0).toNat = 189 := rfl
        rw [g0, g1, g2]
        unfold decodeN
        rw [if_neg (by decide), if_neg (by intro h; exact absurd h.1 (by decide)), if_pos ⟨by decide, ⟨by omega, by decide⟩, by omega, by decide⟩, if_pos (by decide)]
      rw [this] at hb
      exact absurd hb.2 (by decide)
    · rw [if_neg hb, encode_decode l hne hb, ← ih]
      refine ⟨fun h => ?_, fun h => by rw [h, List.take_append_drop]⟩
      have h2 : l.take (decodeL l).2 ++ ((runes (l.drop (decodeL l).2)).flatMap fun (c : Nat) => encodeRune (c : Int)) = l.take (decodeL l).2 ++ l.drop (decodeL l).2 := by rw [h, List.take_append_drop]
      exact List.append_cancel_left h2
end Ut
end Go.Proofs.YtcblpehnkogfdaaGreatDoor

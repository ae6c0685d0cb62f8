/- Inflate: more room does not matter; errors are errors; InflateEnds. Condition: the laid variables. -/
import Derived.Test.YtapgacggllbhiaaDoorInT
namespace Go.Proofs.YtapgacggllbhiaaDoor
namespace Inf
open Sh Bit
set_option linter.unusedVariables false
set_option linter.unusedSimpArgs false
set_option maxRecDepth 4000
set_option maxHeartbeats 1000000
section
variable {s : ByteArray} {m m' : Nat} (hm : m ≤ m')
theorem m_stored {p : Nat} {out : List UInt8} {r : List UInt8 × Nat} (hm : m ≤ m') (h : stored s p out m = .ok r) : stored s p out m' = .ok r := by
  unfold stored at h ⊢
  cases h1 : num s ((p + 7) / 8 * 8) 16 with
  | error e => rw [h1] at h; cases h
  | ok z =>
    obtain ⟨n, p1⟩ := z
    rw [h1] at h
    dsimp only at h ⊢
    cases h2 : num s p1 16 with
    | error e => rw [h2] at h; cases h
    | ok z =>
      obtain ⟨k, p2⟩ := z
      rw [h2] at h
      dsimp only at h ⊢
      by_cases c1 : k ≠ 65535 - n
      · rw [if_pos c1] at h; cases h
      · rw [if_neg c1] at h ⊢
        by_cases c2 : ¬ out.length + n.toNat ≤ m
        · rw [if_pos c2] at h; cases h
        · rw [if_neg c2] at h
          rw [if_neg (by omega)]
          exact h
theorem m_copied {far : List Int} {sg p : Nat} {out : List UInt8} {r : List UInt8 × Nat} (hm : m ≤ m') (h : copied s far m sg out p = .ok r) : copied s far m' sg out p = .ok r := by
  unfold copied at h ⊢
  by_cases c1 : 285 < sg
  · rw [if_pos c1] at h; cases h
  · rw [if_neg c1] at h ⊢
    cases h1 : num s p (moreL (sg - 257)) with
    | error e => rw [h1] at h; cases h
    | ok z =>
      obtain ⟨v, p1⟩ := z
      rw [h1] at h
      dsimp only at h ⊢
      cases h2 : sym far s p1 with
      | error e => rw [h2] at h; cases h
      | ok z =>
        obtain ⟨d, p2⟩ := z
        rw [h2] at h
        dsimp only at h ⊢
        by_cases c2 : 29 < d
        · rw [if_pos c2] at h; cases h
        · rw [if_neg c2] at h ⊢
          cases h3 : num s p2 (moreD d) with
          | error e => rw [h3] at h; cases h
          | ok z =>
            obtain ⟨x, p3⟩ := z
            rw [h3] at h
            dsimp only at h ⊢
            by_cases c3 : out.length < baseD d + x.toNat
            · rw [if_pos c3] at h; cases h
            · rw [if_neg c3] at h ⊢
              by_cases c4 : m < out.length + (firstL (sg - 257) + v.toNat)
              · rw [if_pos c4] at h; cases h
              · rw [if_neg c4] at h
                rw [if_neg (by omega)]
                exact h
theorem m_signs {near far : List Int} {r : List UInt8 × Nat} (hm : m ≤ m') : ∀ (k : Nat) (out : List UInt8) (p : Nat), signsF s near far m k out p = .ok r → signsF s near far m' k out p = .ok r
  | 0, _, _, h => by cases h
  | k + 1, out, p, h => by
    unfold signsF at h ⊢
    cases h1 : sym near s p with
    | error e => rw [h1] at h; cases h
    | ok z =>
      obtain ⟨sg, p1⟩ := z
      rw [h1] at h
      dsimp only at h ⊢
      by_cases c1 : sg = 256
      · rw [if_pos c1] at h ⊢; exact h
      · rw [if_neg c1] at h ⊢
        by_cases c2 : 256 < sg
        · rw [if_pos c2] at h ⊢
          cases h2 : copied s far m sg out p1 with
          | error e => rw [h2] at h; cases h
          | ok z =>
            obtain ⟨o, q⟩ := z
            rw [h2] at h
            rw [m_copied hm h2]
            exact m_signs hm k _ _ h
        · rw [if_neg c2] at h ⊢
          by_cases c3 : m ≤ out.length
          · rw [if_pos c3] at h; cases h
          · rw [if_neg c3] at h
            rw [if_neg (by omega)]
            exact m_signs hm k _ _ h
theorem m_block {kind : Int} {p : Nat} {out : List UInt8} {r : List UInt8 × Nat} (hm : m ≤ m') (h : block s m kind out p = .ok r) : block s m' kind out p = .ok r := by
  unfold block at h ⊢
  by_cases c1 : kind = 3
  · rw [if_pos c1] at h; cases h
  · rw [if_neg c1] at h ⊢
    by_cases c2 : kind = 0
    · rw [if_pos c2] at h ⊢; exact m_stored hm h
    · rw [if_neg c2] at h ⊢
      by_cases c3 : kind = 2
      · rw [if_pos c3] at h ⊢
        cases h1 : dyn s p with
        | error e => rw [h1] at h; cases h
        | ok z =>
          obtain ⟨a, b, q⟩ := z
          rw [h1] at h
          exact m_signs hm _ _ _ h
      · rw [if_neg c3] at h ⊢
        exact m_signs hm _ _ _ h
theorem m_all {r : List UInt8 × Nat} (hm : m ≤ m') : ∀ (k : Nat) (out : List UInt8) (p : Nat), allQ s m k out p = .ok r → allQ s m' k out p = .ok r
  | 0, _, _, h => by cases h
  | k + 1, out, p, h => by
    unfold allQ at h ⊢
    cases h1 : num s p 1 with
    | error e => rw [h1] at h; cases h
    | ok z =>
      obtain ⟨last, p1⟩ := z
      rw [h1] at h
      dsimp only [bnd] at h ⊢
      cases h2 : num s p1 2 with
      | error e => rw [h2] at h; cases h
      | ok z =>
        obtain ⟨kind, p2⟩ := z
        rw [h2] at h
        dsimp only at h ⊢
        cases h3 : block s m kind out p2 with
        | error e => rw [h3] at h; cases h
        | ok z =>
          obtain ⟨o, q⟩ := z
          rw [h3] at h
          rw [m_block hm h3]
          dsimp only at h ⊢
          by_cases c : last = 1
          · rw [if_pos c] at h ⊢; exact h
          · rw [if_neg c] at h ⊢
            exact m_all hm k _ _ h
/-! ### Errors are errors -/
theorem num_er {p n : Nat} {e : Int} (h : num s p n = .error e) : e = 4 := by
  unfold num at h
  split at h
  · cases h
  · cases h; rfl
theorem sgo_er {lens : List Int} {e : Int} : ∀ (k n : Nat) (c f : Int) (p : Nat), sgo lens s k n c f p = .error e → e = 4 ∨ e = 13
  | 0, n, c, f, p, h => by cases h; exact .inr rfl
  | k + 1, n, c, f, p, h => by
    unfold sgo at h
    split at h
    · cases h; exact .inl rfl
    · split at h
      · cases h
      · exact sgo_er k _ _ _ _ h
theorem sym_er {lens : List Int} {e : Int} {p : Nat} (h : sym lens s p = .error e) : e ≠ 0 := by
  have := sgo_er _ _ _ _ _ h
  omega
theorem stored_er {e : Int} {p : Nat} {out : List UInt8} (h : stored s p out m = .error e) : e ≠ 0 := by
  unfold stored at h
  cases h1 : num s ((p + 7) / 8 * 8) 16 with
  | error x => rw [h1] at h; cases h; have := num_er h1; omega
  | ok z =>
    obtain ⟨n, p1⟩ := z
    rw [h1] at h
    dsimp only at h
    cases h2 : num s p1 16 with
    | error x => rw [h2] at h; cases h; have := num_er h2; omega
    | ok z =>
      obtain ⟨k, p2⟩ := z
      rw [h2] at h
      dsimp only at h
      split at h
      · cases h; decide
      · split at h
        · cases h; decide
        · split at h
          · cases h; decide
          · cases h
theorem copied_er {far : List Int} {sg p : Nat} {out : List UInt8} {e : Int} (h : copied s far m sg out p = .error e) : e ≠ 0 := by
  unfold copied at h
  split at h
  · cases h; decide
  · cases h1 : num s p (moreL (sg - 257)) with
    | error x => rw [h1] at h; cases h; have := num_er h1; omega
    | ok z =>
      obtain ⟨v, p1⟩ := z
      rw [h1] at h
      dsimp only at h
      cases h2 : sym far s p1 with
      | error x => rw [h2] at h; cases h; exact sym_er h2
      | ok z =>
        obtain ⟨d, p2⟩ := z
        rw [h2] at h
        dsimp only at h
        split at h
        · cases h; decide
        · cases h3 : num s p2 (moreD d) with
          | error x => rw [h3] at h; cases h; have := num_er h3; omega
          | ok z =>
            obtain ⟨x, p3⟩ := z
            rw [h3] at h
            dsimp only at h
            split at h
            · cases h; decide
            · split at h
              · cases h; decide
              · cases h
theorem signs_er {near far : List Int} {e : Int} : ∀ (k : Nat) (out : List UInt8) (p : Nat), p ≤ 8 * s.size → 8 * s.size < p + k → signsF s near far m k out p = .error e → e ≠ 0
  | 0, _, _, hp, hk, h => by omega
  | k + 1, out, p, hp, hk, h => by
    unfold signsF at h
    cases h1 : sym near s p with
    | error x => rw [h1] at h; cases h; exact sym_er h1
    | ok z =>
      obtain ⟨sg, p1⟩ := z
      rw [h1] at h
      dsimp only at h
      obtain ⟨g1, g2, _⟩ := sym_ok h1
      split at h
      · cases h
      · split at h
        · cases h2 : copied s far m sg out p1 with
          | error x => rw [h2] at h; cases h; exact copied_er h2
          | ok z =>
            obtain ⟨o, q⟩ := z
            rw [h2] at h
            obtain ⟨c1, c2, _⟩ := copied_ok h2
            exact signs_er k o q c2 (by omega) h
        · split at h
          · cases h; decide
          · exact signs_er k _ p1 g2 (by omega) h
theorem lens19_er {e : Int} : ∀ (os : List Nat) (l : List Int) (p : Nat), lens19 s os l p = .error e → e ≠ 0
  | [], l, p, h => by cases h
  | o :: os, l, p, h => by
    unfold lens19 at h
    cases h1 : num s p 3 with
    | error x => rw [h1] at h; cases h; have := num_er h1; omega
    | ok z => rw [h1] at h; exact lens19_er os _ _ h
theorem lensF_er {lens : List Int} {many : Nat} {e : Int} : ∀ (k : Nat) (l : List Int) (p : Nat), many < l.length + k → l.length ≤ many → lensF lens s many k l p = .error e → e ≠ 0
  | 0, l, p, hk, hl, h => by omega
  | k + 1, l, p, hk, hl, h => by
    unfold lensF at h
    split at h
    · cases h
    · cases h1 : sym lens s p with
      | error x => rw [h1] at h; cases h; exact sym_er h1
      | ok z =>
        obtain ⟨sg, p1⟩ := z
        rw [h1] at h
        dsimp only at h
        split at h
        · exact lensF_er k _ _ (by rw [List.length_append]; simp; omega) (by rw [List.length_append]; simp; omega) h
        · split at h
          · cases h; decide
          · cases h2 : num s p1 (repB sg) with
            | error x => rw [h2] at h; cases h; have := num_er h2; omega
            | ok z =>
              obtain ⟨v, p2⟩ := z
              rw [h2] at h
              dsimp only at h
              have hL : 3 ≤ repL sg := by unfold repL; split <;> omega
              split at h
              · cases h; decide
              · exact lensF_er k _ _ (by rw [List.length_append, List.length_replicate]; omega) (by rw [List.length_append, List.length_replicate]; omega) h
theorem dyn_er {p : Nat} {e : Int} (h : dyn s p = .error e) : e ≠ 0 := by
  unfold dyn at h
  cases h1 : num s p 5 with
  | error x => rw [h1] at h; cases h; have := num_er h1; omega
  | ok z =>
    obtain ⟨hl, p1⟩ := z
    rw [h1] at h
    dsimp only at h
    split at h
    · cases h; decide
    · cases h2 : num s p1 5 with
      | error x => rw [h2] at h; cases h; have := num_er h2; omega
      | ok z =>
        obtain ⟨hd, p2⟩ := z
        rw [h2] at h
        dsimp only at h
        split at h
        · cases h; decide
        · cases h3 : num s p2 4 with
          | error x => rw [h3] at h; cases h; have := num_er h3; omega
          | ok z =>
            obtain ⟨hc, p3⟩ := z
            rw [h3] at h
            dsimp only at h
            cases h4 : lens19 s (order.take (hc.toNat + 4)) (List.replicate 19 0) p3 with
            | error x => rw [h4] at h; cases h; exact lens19_er _ _ _ h4
            | ok z =>
              obtain ⟨l19, p4⟩ := z
              rw [h4] at h
              dsimp only at h
              split at h
              · rename_i hc; cases h; exact hc
              · cases h5 : lensF l19 s (hl.toNat + 257 + (hd.toNat + 1)) (hl.toNat + 257 + (hd.toNat + 1) + 1) [] p4 with
                | error x => rw [h5] at h; cases h; exact lensF_er _ _ _ (by simp) (Nat.zero_le _) h5
                | ok z =>
                  obtain ⟨l, p5⟩ := z
                  rw [h5] at h
                  dsimp only at h
                  split at h
                  · cases h; decide
                  · split at h
                    · rename_i hc; cases h; exact hc
                    · split at h
                      · rename_i hc; cases h; exact hc
                      · cases h
theorem block_er {kind : Int} {p : Nat} {out : List UInt8} {e : Int} (hp : p ≤ 8 * s.size) (h : block s m kind out p = .error e) : e ≠ 0 := by
  unfold block at h
  split at h
  · cases h; decide
  · split at h
    · exact stored_er h
    · split at h
      · cases h1 : dyn s p with
        | error x => rw [h1] at h; cases h; exact dyn_er h1
        | ok z =>
          obtain ⟨a, b, q⟩ := z
          rw [h1] at h
          exact signs_er _ _ _ (dyn_ok hp h1).2 (by omega) h
      · exact signs_er _ _ _ hp (by omega) h
theorem all_er {e : Int} : ∀ (k : Nat) (out : List UInt8) (p : Nat), out.length ≤ m → p ≤ 8 * s.size → 8 * s.size < p + k → allQ s m k out p = .error e → e ≠ 0
  | 0, _, _, _, hp, hk, h => by omega
  | k + 1, out, p, ho, hp, hk, h => by
    unfold allQ at h
    cases h1 : num s p 1 with
    | error x => rw [h1] at h; cases h; have := num_er h1; omega
    | ok z =>
      obtain ⟨last, p1⟩ := z
      rw [h1] at h
      dsimp only [bnd] at h
      obtain ⟨_, _, rfl, a3⟩ := num_bd h1
      cases h2 : num s (p + 1) 2 with
      | error x => rw [h2] at h; cases h; have := num_er h2; omega
      | ok z =>
        obtain ⟨kind, p2⟩ := z
        rw [h2] at h
        dsimp only at h
        obtain ⟨_, _, rfl, b3⟩ := num_bd h2
        cases h3 : block s m kind out (p + 1 + 2) with
        | error x => rw [h3] at h; cases h; exact block_er b3 h3
        | ok z =>
          obtain ⟨o, q⟩ := z
          rw [h3] at h
          dsimp only at h
          obtain ⟨c1, c2, c3⟩ := block_ok b3 ho h3
          split at h
          · cases h
          · exact all_er k o q c3 c2 (by omega) h
theorem all_ok {o : List UInt8} {q : Nat} : ∀ (k : Nat) (out : List UInt8) (p : Nat), out.length ≤ m → p ≤ 8 * s.size → allQ s m k out p = .ok (o, q) → p < q ∧ q ≤ 8 * s.size ∧ o.length ≤ m
  | 0, _, _, _, _, h => by cases h
  | k + 1, out, p, ho, hp, h => by
    unfold allQ at h
    cases h1 : num s p 1 with
    | error x => rw [h1] at h; cases h
    | ok z =>
      obtain ⟨last, p1⟩ := z
      rw [h1] at h
      dsimp only [bnd] at h
      obtain ⟨_, _, rfl, a3⟩ := num_bd h1
      cases h2 : num s (p + 1) 2 with
      | error x => rw [h2] at h; cases h
      | ok z =>
        obtain ⟨kind, p2⟩ := z
        rw [h2] at h
        dsimp only at h
        obtain ⟨_, _, rfl, b3⟩ := num_bd h2
        cases h3 : block s m kind out (p + 1 + 2) with
        | error x => rw [h3] at h; cases h
        | ok z =>
          obtain ⟨o2, q2⟩ := z
          rw [h3] at h
          dsimp only at h
          obtain ⟨c1, c2, c3⟩ := block_ok b3 ho h3
          split at h
          · cases h; exact ⟨by omega, c2, c3⟩
          · obtain ⟨d1, d2, d3⟩ := all_ok k o2 q2 c3 c2 h
            exact ⟨by omega, d2, d3⟩
end
theorem allR_Q {s : ByteArray} {most : Int} (h : 0 ≤ most) : allR s most = match allQ s (min most 1048576).toNat (8 * s.size + 1) [] 0 with
    | .error e => (⟨#[]⟩, 0, e)
    | .ok (o, q) => (⟨o.toArray⟩, (((q + 7) / 8 : Nat) : Int), 0) := by
  unfold allR
  rw [if_neg (by omega), allF_Q]
  cases allQ s (min most 1048576).toNat (8 * s.size + 1) [] 0 <;> rfl
theorem allR_er {s : ByteArray} {most : Int} {d : ByteArray} {n e : Int} (h : (d, n, e) = allR s most) (he : e ≠ 0) : d = ⟨#[]⟩ ∧ n = 0 := by
  by_cases hm : most < 0
  · unfold allR at h
    rw [if_pos hm] at h
    cases h
    exact ⟨rfl, rfl⟩
  · rw [allR_Q (by omega)] at h
    cases hq : allQ s (min most 1048576).toNat (8 * s.size + 1) [] 0 with
    | error x => rw [hq] at h; cases h; exact ⟨rfl, rfl⟩
    | ok z => rw [hq] at h; cases h; exact absurd rfl he
/-- What follows does not matter, and what is cut off is missed. -/
theorem ends_plain {s : ByteArray} {most : Int} {d : ByteArray} {n : Int} (h : (d, n, 0) = allR s most) : ∃ u : Nat, n = (u : Int) ∧ 1 ≤ u ∧ u ≤ s.size ∧ (d.size : Int) ≤ most ∧
    (∀ (more : ByteArray) (b : Int), 0 ≤ b → allR (s.extract 0 u ++ more) (most + b) = (d, n, 0)) ∧ allR (s.extract 0 (u - 1)) most = (⟨#[]⟩, 0, 4) := by
  by_cases hm : most < 0
  · unfold allR at h
    rw [if_pos hm] at h
    cases h
  have hm0 : 0 ≤ most := by omega
  rw [allR_Q hm0] at h
  cases hq : allQ s (min most 1048576).toNat (8 * s.size + 1) [] 0 with
  | error x =>
    rw [hq] at h
    cases h
    exact absurd rfl (all_er _ _ _ (Nat.zero_le _) (Nat.zero_le _) (by omega) hq)
  | ok z =>
    obtain ⟨o, q⟩ := z
    rw [hq] at h
    obtain ⟨h1, h2⟩ := Prod.mk.inj h
    obtain ⟨h2, _⟩ := Prod.mk.inj h2
    obtain ⟨a1, a2, a3⟩ := all_ok _ _ _ (Nat.zero_le _) (Nat.zero_le _) hq
    have pre : ∀ u, u ≤ s.size → Pre (s.extract 0 u) s ∧ (s.extract 0 u).size = u := fun u hu => by
      refine ⟨⟨s.data.toList.drop u, ?_⟩, by rw [ByteArray.size_extract]; omega⟩
      rw [extract_list, List.drop_zero, Nat.sub_zero, List.take_append_drop]
    have K : ∀ r : ByteArray, 8 * r.size < 0 + (8 * r.size + 1) := fun r => by omega
    have hG := g_all s (min most 1048576).toNat (8 * s.size + 1) (fun r => 8 * r.size + 1) [] 0 (by omega) K
    have hu : (q + 7) / 8 ≤ s.size := by omega
    refine ⟨(q + 7) / 8, h2, by omega, hu, ?_, fun more b hb => ?_, ?_⟩
    · rw [h1]
      show ((o.toArray.size : Nat) : Int) ≤ most
      rw [List.size_toArray]
      omega
    · obtain ⟨p1, p2⟩ := pre _ hu
      have hR : allQ (s.extract 0 ((q + 7) / 8)) (min most 1048576).toNat (8 * (s.extract 0 ((q + 7) / 8)).size + 1) [] 0 = .ok (o, q) := by
        rcases ((hG _ p1 (Nat.zero_le _)).t o q hq).2 with e | e
        · exact e.2
        · omega
      have p3 : Pre (s.extract 0 ((q + 7) / 8)) (s.extract 0 ((q + 7) / 8) ++ more) := ⟨more.data.toList, by rw [ByteArray.data_append, Array.toList_append]⟩
      have hG2 := g_all (s.extract 0 ((q + 7) / 8) ++ more) (min most 1048576).toNat (8 * (s.extract 0 ((q + 7) / 8) ++ more).size + 1) (fun r => 8 * r.size + 1) [] 0 (by omega) K
      have hT := ((hG2 _ p3 (Nat.zero_le _)).r o q hR).1
      have hT2 := m_all (m' := (min (most + b) 1048576).toNat) (by omega) _ _ _ hT
      rw [allR_Q (by omega), hT2, h1, h2]
    · obtain ⟨p1, p2⟩ := pre ((q + 7) / 8 - 1) (by omega)
      rw [allR_Q hm0]
      rcases ((hG _ p1 (Nat.zero_le _)).t o q hq).2 with e | e
      · omega
      · have e2 := e.2
        dsimp only at e2
        rw [e2]
attribute [local irreducible] Ld St Nw Nn Lt LdS
theorem ends_law {w : World} {N : Nat} (hL : Laid N w) (s more : ByteArray) {most b : Int} (hb : -9223372036854775808 ≤ most) : C5 s more most b w (fun r w1 => r = true ∧ Ext (fun _ => False) w w1) fun _ _ => False := by
  refine T5 _ _ _ _ _ _ _ ?_
  unfold S5
  refine (c_lives hL).mono ?_ fun _ _ h => h
  rintro r w1 ⟨rfl, e1⟩
  refine Br.f rfl (Br.dec (fun _ => ⟨rfl, e1⟩) fun hs => Br.dec (fun _ => ⟨rfl, e1⟩) fun hm => Br.dec (fun _ => ⟨rfl, e1⟩) fun hb0 => Br.dec (fun _ => ⟨rfl, e1⟩) fun hb1 => Br.dec (fun _ => ⟨rfl, e1⟩) fun hm2 => ?_)
  refine (c_All (N := N) (s := s) (by omega) (hL.no e1) most).mono ?_
  rintro d n e w2 ⟨h2, e2⟩
  have E2 := e1.tr e2
  refine Br.ne (fun he => ?_) fun he => ?_
  · obtain ⟨rfl, rfl⟩ := allR_er h2 he
    exact Br.t (by simp) ⟨rfl, E2⟩
  subst he
  obtain ⟨u, rfl, u1, u2, u3, u4, u5⟩ := ends_plain h2
  have hmax : IntKind.i64.max = 9223372036854775807 := by decide
  have hz1 : (s.extract 0 u).size = u := by rw [ByteArray.size_extract]; omega
  have hm0 : 0 ≤ most := by omega
  refine Br.dec (fun q => by omega) fun q1 => Br.dec (fun q => by omega) fun q2 => Br.dec (fun q => by omega) fun q3 => ⟨by omega, by omega, ?_⟩
  rw [Int.toNat_natCast, hmax, hz1, i64_id (n := most + b) (by omega), i64_id (n := (u : Int) - 1) (by omega), show ((u : Int) - 1).toNat = u - 1 by omega]
  refine ⟨by omega, (c_All (N := N) (s := s.extract 0 u ++ more) (by rw [ByteArray.size_append, hz1]; omega) (hL.no E2) (most + b)).mono ?_⟩
  rintro d2 n2 x2 w3 ⟨h3, e3⟩
  rw [u4 more b (by omega)] at h3
  simp only [Prod.mk.injEq] at h3
  obtain ⟨rfl, rfl, rfl⟩ := h3
  have E3 := E2.tr e3
  refine ⟨by omega, by omega, (c_All (N := N) (s := s.extract 0 (u - 1)) (by rw [ByteArray.size_extract]; omega) (hL.no E3) most).mono ?_⟩
  rintro d4 n4 x4 w4 ⟨h4, e4⟩
  rw [u5] at h4
  simp only [Prod.mk.injEq] at h4
  obtain ⟨rfl, rfl, rfl⟩ := h4
  exact Br.t (by simp) (Br.t (by simp) (Br.t rfl (Br.t (by simp) (Br.t rfl ⟨rfl, E3.tr e4⟩))))
end Inf
end Go.Proofs.YtapgacggllbhiaaDoor

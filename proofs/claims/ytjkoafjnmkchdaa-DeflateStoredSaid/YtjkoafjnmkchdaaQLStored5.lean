/- Inflate: more room does not matter; errors are errors; InflateEnds. Condition: the laid variables. -/
import Derived.Test.YtjkoafjnmkchdaaQLStored4
import Derived.Test.YtjkoafjnmkchdaaQLStored2
import Derived.Test.YtjkoafjnmkchdaaQLStored3
namespace Go.Proofs.Ytjkoafjnmkchdaa
namespace Inf
open Sh Bit
set_option linter.unusedVariables false
set_option linter.unusedSimpArgs false
set_option maxRecDepth 4000
set_option maxHeartbeats 1000000
section
variable {s : ByteArray} {m m' : Nat} (hm : m ≤ m')
theorem m_stored {p : Nat} {out : List UInt8} {r : List UInt8 × Nat} (hm : m ≤ m') (h : stored s p out m = .ok r) : stored s p out m' = .ok r := by
  unfold stored at h ⊢
  cases h1 : num s ((p + 7) / 8 * 8) 16 with
  | error e => rw [h1] at h; cases h
  | ok z =>
    obtain ⟨n, p1⟩ := z
    rw [h1] at h
    dsimp only at h ⊢
    cases h2 : num s p1 16 with
    | error e => rw [h2] at h; cases h
    | ok z =>
      obtain ⟨k, p2⟩ := z
      rw [h2] at h
      dsimp only at h ⊢
      by_cases c1 : k ≠ 65535 - n
      · rw [if_pos c1] at h; cases h
      · rw [if_neg c1] at h ⊢
        by_cases c2 : ¬ out.length + n.toNat ≤ m
        · rw [if_pos c2] at h; cases h
        · rw [if_neg c2] at h
          rw [if_neg (by omega)]
          exact h
theorem m_copied {far : List Int} {sg p : Nat} {out : List UInt8} {r : List UInt8 × Nat} (hm : m ≤ m') (h : copied s far m sg out p = .ok r) : copied s far m' sg out p = .ok r := by
  unfold copied at h ⊢
  by_cases c1 : 285 < sg
  · rw [if_pos c1] at h; cases h
  · rw [if_neg c1] at h ⊢
    cases h1 : num s p (moreL (sg - 257)) with
    | error e => rw [h1] at h; cases h
    | ok z =>
      obtain ⟨v, p1⟩ := z
      rw [h1] at h
      dsimp only at h ⊢
      cases h2 : sym far s p1 with
      | error e => rw [h2] at h; cases h
      | ok z =>
        obtain ⟨d, p2⟩ := z
        rw [h2] at h
        dsimp only at h ⊢
        by_cases c2 : 29 < d
        · rw [if_pos c2] at h; cases h
        · rw [if_neg c2] at h ⊢
          cases h3 : num s p2 (moreD d) with
          | error e => rw [h3] at h; cases h
          | ok z =>
            obtain ⟨x, p3⟩ := z
            rw [h3] at h
            dsimp only at h ⊢
            by_cases c3 : out.length < baseD d + x.toNat
            · rw [if_pos c3] at h; cases h
            · rw [if_neg c3] at h ⊢
              by_cases c4 : m < out.length + (firstL (sg - 257) + v.toNat)
              · rw [if_pos c4] at h; cases h
              · rw [if_neg c4] at h
                rw [if_neg (by omega)]
                exact h
theorem m_signs {near far : List Int} {r : List UInt8 × Nat} (hm : m ≤ m') : ∀ (k : Nat) (out : List UInt8) (p : Nat), signsF s near far m k out p = .ok r → signsF s near far m' k out p = .ok r
  | 0, _, _, h => by cases h
  | k + 1, out, p, h => by
    unfold signsF at h ⊢
    cases h1 : sym near s p with
    | error e => rw [h1] at h; cases h
    | ok z =>
      obtain ⟨sg, p1⟩ := z
      rw [h1] at h
      dsimp only at h ⊢
      by_cases c1 : sg = 256
      · rw [if_pos c1] at h ⊢; exact h
      · rw [if_neg c1] at h ⊢
        by_cases c2 : 256 < sg
        · rw [if_pos c2] at h ⊢
          cases h2 : copied s far m sg out p1 with
          | error e => rw [h2] at h; cases h
          | ok z =>
            obtain ⟨o, q⟩ := z
            rw [h2] at h
            rw [m_copied hm h2]
            exact m_signs hm k _ _ h
        · rw [if_neg c2] at h ⊢
          by_cases c3 : m ≤ out.length
          · rw [if_pos c3] at h; cases h
          · rw [if_neg c3] at h
            rw [if_neg (by omega)]
            exact m_signs hm k _ _ h
theorem m_block {kind : Int} {p : Nat} {out : List UInt8} {r : List UInt8 × Nat} (hm : m ≤ m') (h : block s m kind out p = .ok r) : block s m' kind out p = .ok r := by
  unfold block at h ⊢
  by_cases c1 : kind = 3
  · rw [if_pos c1] at h; cases h
  · rw [if_neg c1] at h ⊢
    by_cases c2 : kind = 0
    · rw [if_pos c2] at h ⊢; exact m_stored hm h
    · rw [if_neg c2] at h ⊢
      by_cases c3 : kind = 2
      · rw [if_pos c3] at h ⊢
        cases h1 : dyn s p with
        | error e => rw [h1] at h; cases h
        | ok z =>
          obtain ⟨a, b, q⟩ := z
          rw [h1] at h
          exact m_signs hm _ _ _ h
      · rw [if_neg c3] at h ⊢
        exact m_signs hm _ _ _ h
theorem m_all {r : List UInt8 × Nat} (hm : m ≤ m') : ∀ (k : Nat) (out : List UInt8) (p : Nat), allQ s m k out p = .ok r → allQ s m' k out p = .ok r
  | 0, _, _, h => by cases h
  | k + 1, out, p, h => by
    unfold allQ at h ⊢
    cases h1 : num s p 1 with
    | error e => rw [h1] at h; cases h
    | ok z =>
      obtain ⟨last, p1⟩ := z
      rw [h1] at h
      dsimp only [bnd] at h ⊢
      cases h2 : num s p1 2 with
      | error e => rw [h2] at h; cases h
      | ok z =>
        obtain ⟨kind, p2⟩ := z
        rw [h2] at h
        dsimp only at h ⊢
        cases h3 : block s m kind out p2 with
        | error e => rw [h3] at h; cases h
        | ok z =>
          obtain ⟨o, q⟩ := z
          rw [h3] at h
          rw [m_block hm h3]
          dsimp only at h ⊢
          by_cases c : last = 1
          · rw [if_pos c] at h ⊢; exact h
          · rw [if_neg c] at h ⊢
            exact m_all hm k _ _ h
/-! ### Errors are errors -/
theorem num_er {p n : Nat} {e : Int} (h : num s p n = .error e) : e = 4 := by
  unfold num at h
  split at h
  · cases h
  · cases h; rfl
theorem sgo_er {lens : List Int} {e : Int} : ∀ (k n : Nat) (c f : Int) (p : Nat), sgo lens s k n c f p = .error e → e = 4 ∨ e = 13
  | 0, n, c, f, p, h => by cases h; exact .inr rfl
  | k + 1, n, c, f, p, h => by
    unfold sgo at h
    split at h
    · cases h; exact .inl rfl
    · split at h
      · cases h
      · exact sgo_er k _ _ _ _ h
theorem sym_er {lens : List Int} {e : Int} {p : Nat} (h : sym lens s p = .error e) : e ≠ 0 := by
  have := sgo_er _ _ _ _ _ h
  omega
theorem stored_er {e : Int} {p : Nat} {out : List UInt8} (h : stored s p out m = .error e) : e ≠ 0 := by
  unfold stored at h
  cases h1 : num s ((p + 7) / 8 * 8) 16 with
  | error x => rw [h1] at h; cases h; have := num_er h1; omega
  | ok z =>
    obtain ⟨n, p1⟩ := z
    rw [h1] at h
    dsimp only at h
    cases h2 : num s p1 16 with
    | error x => rw [h2] at h; cases h; have := num_er h2; omega
    | ok z =>
      obtain ⟨k, p2⟩ := z
      rw [h2] at h
      dsimp only at h
      split at h
      · cases h; decide
      · split at h
        · cases h; decide
        · split at h
          · cases h; decide
          · cases h
theorem copied_er {far : List Int} {sg p : Nat} {out : List UInt8} {e : Int} (h : copied s far m sg out p = .error e) : e ≠ 0 := by
  unfold copied at h
  split at h
  · cases h; decide
  · cases h1 : num s p (moreL (sg - 257)) with
    | error x => rw [h1] at h; cases h; have := num_er h1; omega
    | ok z =>
      obtain ⟨v, p1⟩ := z
      rw [h1] at h
      dsimp only at h
      cases h2 : sym far s p1 with
      | error x => rw [h2] at h; cases h; exact sym_er h2
      | ok z =>
        obtain ⟨d, p2⟩ := z
        rw [h2] at h
        dsimp only at h
        split at h
        · cases h; decide
        · cases h3 : num s p2 (moreD d) with
          | error x => rw [h3] at h; cases h; have := num_er h3; omega
          | ok z =>
            obtain ⟨x, p3⟩ := z
            rw [h3] at h
            dsimp only at h
            split at h
            · cases h; decide
            · split at h
              · cases h; decide
              · cases h
theorem signs_er {near far : List Int} {e : Int} : ∀ (k : Nat) (out : List UInt8) (p : Nat), p ≤ 8 * s.size → 8 * s.size < p + k → signsF s near far m k out p = .error e → e ≠ 0
  | 0, _, _, hp, hk, h => by omega
  | k + 1, out, p, hp, hk, h => by
    unfold signsF at h
    cases h1 : sym near s p with
    | error x => rw [h1] at h; cases h; exact sym_er h1
    | ok z =>
      obtain ⟨sg, p1⟩ := z
      rw [h1] at h
      dsimp only at h
      obtain ⟨g1, g2, _⟩ := sym_ok h1
      split at h
      · cases h
      · split at h
        · cases h2 : copied s far m sg out p1 with
          | error x => rw [h2] at h; cases h; exact copied_er h2
          | ok z =>
            obtain ⟨o, q⟩ := z
            rw [h2] at h
            obtain ⟨c1, c2, _⟩ := copied_ok h2
            exact signs_er k o q c2 (by omega) h
        · split at h
          · cases h; decide
          · exact signs_er k _ p1 g2 (by omega) h
theorem lens19_er {e : Int} : ∀ (os : List Nat) (l : List Int) (p : Nat), lens19 s os l p = .error e → e ≠ 0
  | [], l, p, h => by cases h
  | o :: os, l, p, h => by
    unfold lens19 at h
    cases h1 : num s p 3 with
    | error x => rw [h1] at h; cases h; have := num_er h1; omega
    | ok z => rw [h1] at h; exact lens19_er os _ _ h
theorem lensF_er {lens : List Int} {many : Nat} {e : Int} : ∀ (k : Nat) (l : List Int) (p : Nat), many < l.length + k → l.length ≤ many → lensF lens s many k l p = .error e → e ≠ 0
  | 0, l, p, hk, hl, h => by omega
  | k + 1, l, p, hk, hl, h => by
    unfold lensF at h
    split at h
    · cases h
    · cases h1 : sym lens s p with
      | error x => rw [h1] at h; cases h; exact sym_er h1
      | ok z =>
        obtain ⟨sg, p1⟩ := z
        rw [h1] at h
        dsimp only at h
        split at h
        · exact lensF_er k _ _ (by rw [List.length_append]; simp; omega) (by rw [List.length_append]; simp; omega) h
        · split at h
          · cases h; decide
          · cases h2 : num s p1 (repB sg) with
            | error x => rw [h2] at h; cases h; have := num_er h2; omega
            | ok z =>
              obtain ⟨v, p2⟩ := z
              rw [h2] at h
              dsimp only at h
              have hL : 3 ≤ repL sg := by unfold repL; split <;> omega
              split at h
              · cases h; decide
              · exact lensF_er k _ _ (by rw [List.length_append, List.length_replicate]; omega) (by rw [List.length_append, List.length_replicate]; omega) h
theorem dyn_er {p : Nat} {e : Int} (h : dyn s p = .error e) : e ≠ 0 := by
  unfold dyn at h
  cases h1 : num s p 5 with
  | error x => rw [h1] at h; cases h; have := num_er h1; omega
  | ok z =>
    obtain ⟨hl, p1⟩ := z
    rw [h1] at h
    dsimp only at h
    split at h
    · cases h; decide
    · cases h2 : num s p1 5 with
      | error x => rw [h2] at h; cases h; have := num_er h2; omega
      | ok z =>
        obtain ⟨hd, p2⟩ := z
        rw [h2] at h
        dsimp only at h
        split at h
        · cases h; decide
        · cases h3 : num s p2 4 with
          | error x => rw [h3] at h; cases h; have := num_er h3; omega
          | ok z =>
            obtain ⟨hc, p3⟩ := z
            rw [h3] at h
            dsimp only at h
            cases h4 : lens19 s (order.take (hc.toNat + 4)) (List.replicate 19 0) p3 with
            | error x => rw [h4] at h; cases h; exact lens19_er _ _ _ h4
            | ok z =>
              obtain ⟨l19, p4⟩ := z
              rw [h4] at h
              dsimp only at h
              split at h
              · rename_i hc; cases h; exact hc
              · cases h5 : lensF l19 s (hl.toNat + 257 + (hd.toNat + 1)) (hl.toNat + 257 + (hd.toNat + 1) + 1) [] p4 with
                | error x => rw [h5] at h; cases h; exact lensF_er _ _ _ (by simp) (Nat.zero_le _) h5
                | ok z =>
                  obtain ⟨l, p5⟩ := z
                  rw [h5] at h
                  dsimp only at h
                  split at h
                  · cases h; decide
                  · split at h
                    · rename_i hc; cases h; exact hc
                    · split at h
                      · rename_i hc; cases h; exact hc
                      · cases h
theorem block_er {kind : Int} {p : Nat} {out : List UInt8} {e : Int} (hp : p ≤ 8 * s.size) (h : block s m kind out p = .error e) : e ≠ 0 := by
  unfold block at h
  split at h
  · cases h; decide
  · split at h
    · exact stored_er h
    · split at h
      · cases h1 : dyn s p with
        | error x => rw [h1] at h; cases h; exact dyn_er h1
        | ok z =>
          obtain ⟨a, b, q⟩ := z
          rw [h1] at h
          exact signs_er _ _ _ (dyn_ok hp h1).2 (by omega) h
      · exact signs_er _ _ _ hp (by omega) h
theorem all_er {e : Int} : ∀ (k : Nat) (out : List UInt8) (p : Nat), out.length ≤ m → p ≤ 8 * s.size → 8 * s.size < p + k → allQ s m k out p = .error e → e ≠ 0
  | 0, _, _, _, hp, hk, h => by omega
  | k + 1, out, p, ho, hp, hk, h => by
    unfold allQ at h
    cases h1 : num s p 1 with
    | error x => rw [h1] at h; cases h; have := num_er h1; omega
    | ok z =>
      obtain ⟨last, p1⟩ := z
      rw [h1] at h
      dsimp only [bnd] at h
      obtain ⟨_, _, rfl, a3⟩ := num_bd h1
      cases h2 : num s (p + 1) 2 with
      | error x => rw [h2] at h; cases h; have := num_er h2; omega
      | ok z =>
        obtain ⟨kind, p2⟩ := z
        rw [h2] at h
        dsimp only at h
        obtain ⟨_, _, rfl, b3⟩ := num_bd h2
        cases h3 : block s m kind out (p + 1 + 2) with
        | error x => rw [h3] at h; cases h; exact block_er b3 h3
        | ok z =>
          obtain ⟨o, q⟩ := z
          rw [h3] at h
          dsimp only at h
          obtain ⟨c1, c2, c3⟩ := block_ok b3 ho h3
          split at h
          · cases h
          · exact all_er k o q c3 c2 (by omega) h
theorem all_ok {o : List UInt8} {q : Nat} : ∀ (k : Nat) (out : List UInt8) (p : Nat), out.length ≤ m → p ≤ 8 * s.size → allQ s m k out p = .ok (o, q) → p < q ∧ q ≤ 8 * s.size ∧ o.length ≤ m
  | 0, _, _, _, _, h => by cases h
  | k + 1, out, p, ho, hp, h => by
    unfold allQ at h
    cases h1 : num s p 1 with
    | error x => rw [h1] at h; cases h
    | ok z =>
      obtain ⟨last, p1⟩ := z
      rw [h1] at h
      dsimp only [bnd] at h
      obtain ⟨_, _, rfl, a3⟩ := num_bd h1
      cases h2 : num s (p + 1) 2 with
      | error x => rw [h2] at h; cases h
      | ok z =>
        obtain ⟨kind, p2⟩ := z
        rw [h2] at h
        dsimp only at h
        obtain ⟨_, _, rfl, b3⟩ := num_bd h2
        cases h3 : block s m kind out (p + 1 + 2) with
        | error x => rw [h3] at h; cases h
        | ok z =>
          obtain ⟨o2, q2⟩ := z
          rw [h3] at h
          dsimp only at h
          obtain ⟨c1, c2, c3⟩ := block_ok b3 ho h3
          split at h
          · cases h; exact ⟨by omega, c2, c3⟩
          · obtain ⟨d1, d2, d3⟩ := all_ok k o2 q2 c3 c2 h
            exact ⟨by omega, d2, d3⟩
end
theorem allR_Q {s : ByteArray} {most : Int} (h : 0 ≤ most) : allR s most = match allQ s (min most 1048576).toNat (8 * s.size + 1) [] 0 with
    | .error e => (⟨#[]⟩, 0, e)
    | .ok (o, q) => (⟨o.toArray⟩, (((q + 7) / 8 : Nat) : Int), 0) := by
  unfold allR
  rw [if_neg (by omega), allF_Q]
  cases allQ s (min most 1048576).toNat (8 * s.size + 1) [] 0 <;> rfl
theorem allR_er {s : ByteArray} {most : Int} {d : ByteArray} {n e : Int} (h : (d, n, e) = allR s most) (he : e ≠ 0) : d = ⟨#[]⟩ ∧ n = 0 := by
  by_cases hm : most < 0
  · unfold allR at h
    rw [if_pos hm] at h
    cases h
    exact ⟨rfl, rfl⟩
  · rw [allR_Q (by omega)] at h
    cases hq : allQ s (min most 1048576).toNat (8 * s.size + 1) [] 0 with
    | error x => rw [hq] at h; cases h; exact ⟨rfl, rfl⟩
    | ok z => rw [hq] at h; cases h; exact absurd rfl he
/-- What follows does not matter, and what is cut off is missed. -/
theorem ends_plain {s : ByteArray} {most : Int} {d : ByteArray} {n : Int} (h : (d, n, 0) = allR s most) : ∃ u : Nat, n = (u : Int) ∧ 1 ≤ u ∧ u ≤ s.size ∧ (d.size : Int) ≤ most ∧
    (∀ (more : ByteArray) (b : Int), 0 ≤ b → allR (s.extract 0 u ++ more) (most + b) = (d, n, 0)) ∧ allR (s.extract 0 (u - 1)) most = (⟨#[]⟩, 0, 4) := by
  by_cases hm : most < 0
  · unfold allR at h
    rw [if_pos hm] at h
    cases h
  have hm0 : 0 ≤ most := by omega
  rw [allR_Q hm0] at h
  cases hq : allQ s (min most 1048576).toNat (8 * s.size + 1) [] 0 with
  | error x =>
    rw [hq] at h
    cases h
    exact absurd rfl (all_er _ _ _ (Nat.zero_le _) (Nat.zero_le _) (by omega) hq)
  | ok z =>
    obtain ⟨o, q⟩ := z
    rw [hq] at h
    obtain ⟨h1, h2⟩ := Prod.mk.inj h
    obtain ⟨h2, _⟩ := Prod.mk.inj h2
    obtain ⟨a1, a2, a3⟩ := all_ok _ _ _ (Nat.zero_le _) (Nat.zero_le _) hq
    have pre : ∀ u, u ≤ s.size → Pre (s.extract 0 u) s ∧ (s.extract 0 u).size = u := fun u hu => by
      refine ⟨⟨s.data.toList.drop u, ?_⟩, by rw [ByteArray.size_extract]; omega⟩
      rw [extract_list, List.drop_zero, Nat.sub_zero, List.take_append_drop]
    have K : ∀ r : ByteArray, 8 * r.size < 0 + (8 * r.size + 1) := fun r => by omega
    have hG := g_all s (min most 1048576).toNat (8 * s.size + 1) (fun r => 8 * r.size + 1) [] 0 (by omega) K
    have hu : (q + 7) / 8 ≤ s.size := by omega
    refine ⟨(q + 7) / 8, h2, by omega, hu, ?_, fun more b hb => ?_, ?_⟩
    · rw [h1]
      show ((o.toArray.size : Nat) : Int) ≤ most
      rw [List.size_toArray]
      omega
    · obtain ⟨p1, p2⟩ := pre _ hu
      have hR : allQ (s.extract 0 ((q + 7) / 8)) (min most 1048576).toNat (8 * (s.extract 0 ((q + 7) / 8)).size + 1) [] 0 = .ok (o, q) := by
        rcases ((hG _ p1 (Nat.zero_le _)).t o q hq).2 with e | e
        · exact e.2
        · omega
      have p3 : Pre (s.extract 0 ((q + 7) / 8)) (s.extract 0 ((q + 7) / 8) ++ more) := ⟨more.data.toList, by rw [ByteArray.data_append, Array.toList_append]⟩
      have hG2 := g_all (s.extract 0 ((q + 7) / 8) ++ more) (min most 1048576).toNat (8 * (s.extract 0 ((q + 7) / 8) ++ more).size + 1) (fun r => 8 * r.size + 1) [] 0 (by omega) K
      have hT := ((hG2 _ p3 (Nat.zero_le _)).r o q hR).1
      have hT2 := m_all (m' := (min (most + b) 1048576).toNat) (by omega) _ _ _ hT
      rw [allR_Q (by omega), hT2, h1, h2]
    · obtain ⟨p1, p2⟩ := pre ((q + 7) / 8 - 1) (by omega)
      rw [allR_Q hm0]
      rcases ((hG _ p1 (Nat.zero_le _)).t o q hq).2 with e | e
      · omega
      · have e2 := e.2
        dsimp only at e2
        rw [e2]
attribute [local irreducible] Ld St Nw Nn Lt LdS
end Inf
end Go.Proofs.Ytjkoafjnmkchdaa

/- Numbers written bit by bit: plain laws, no program in sight. No condition. -/
namespace Go.Proofs.Ytjkoafjnmkchdaa
namespace Bit
open Sh
set_option linter.unusedVariables false

/-- Where the next bit goes in its byte. -/
def pl (way : Int) (used : Nat) : Nat := if way = 1 then used else 7 - used
def grow (st : List UInt8 × Nat) : List UInt8 := if st.2 = 0 then st.1 ++ [0] else st.1
def lastN (l : List UInt8) : Nat := (l.getD (l.length - 1) 0).toNat
def addLast (l : List UInt8) (v : Nat) : List UInt8 := l.set (l.length - 1) (UInt8.ofNat (lastN l + v))
/-- What is written (the bytes; how many bits of the last are used), after one more bit. -/
def oneS (way : Int) (st : List UInt8 × Nat) (b : Nat) : List UInt8 × Nat := (addLast (grow st) (b * 2 ^ pl way st.2), (st.2 + 1) % 8)
/-- What stands in the bits that are not used yet: nothing. -/
structure WOK (way : Int) (st : List UInt8 × Nat) : Prop where
  lt : st.2 < 8
  ne : st.2 ≠ 0 → st.1 ≠ []
  low : st.2 ≠ 0 → way = 1 → lastN st.1 < 2 ^ st.2
  high : st.2 ≠ 0 → way ≠ 1 → ∃ k, lastN st.1 = k * 2 ^ (8 - st.2)
theorem WOK.zero (way : Int) (l : List UInt8) : WOK way (l, 0) := ⟨by omega, fun h => absurd rfl h, fun h => absurd rfl h, fun h => absurd rfl h⟩
theorem grow_ne {way : Int} {st : List UInt8 × Nat} (h : WOK way st) : grow st ≠ [] := by
  unfold grow
  split
  · simp
  · rename_i h0; exact h.ne h0
theorem lastN_lt (l : List UInt8) : lastN l < 256 := UInt8.toNat_lt _
theorem lastN_push (l : List UInt8) : lastN (l ++ [0]) = 0 := by simp [lastN]
theorem grow_low {st : List UInt8 × Nat} (h : WOK 1 st) : lastN (grow st) < 2 ^ st.2 := by
  unfold grow
  split
  · rename_i h0; rw [lastN_push, h0]; decide
  · rename_i h0; exact h.low h0 rfl
theorem grow_high {way : Int} {st : List UInt8 × Nat} (h : WOK way st) (hw : way ≠ 1) : ∃ k, lastN (grow st) = k * 2 ^ (8 - st.2) := by
  unfold grow
  split
  · exact ⟨0, by rw [lastN_push]; simp⟩
  · rename_i h0; exact h.high h0 hw
/-- The new byte is below 256, and or-ing is adding. -/
theorem place_new {way : Int} {st : List UInt8 × Nat} (h : WOK way st) {b : Nat} (hb : b ≤ 1) :
    lastN (grow st) + b * 2 ^ pl way st.2 < 256 ∧ lastN (grow st) ||| b * 2 ^ pl way st.2 = lastN (grow st) + b * 2 ^ pl way st.2 ∧ b * 2 ^ pl way st.2 < 256 := by
  have hlt := h.lt
  have h1 : b * 2 ^ pl way st.2 ≤ 1 * 2 ^ pl way st.2 := Nat.mul_le_mul_right _ hb
  by_cases hw : way = 1
  · subst hw
    have hx := grow_low h
    have hp : pl 1 st.2 = st.2 := by simp [pl]
    rw [hp] at h1 ⊢
    have h8 : 2 ^ (st.2 + 1) ≤ 2 ^ 8 := Nat.pow_le_pow_right (by decide) (by omega)
    rw [Nat.pow_succ] at h8
    exact ⟨by omega, or_shift hx, by omega⟩
  · obtain ⟨k, hk⟩ := grow_high h hw
    have hp : pl way st.2 = 7 - st.2 := by simp [pl, hw]
    have h256 := lastN_lt (grow st)
    rw [hp] at h1 ⊢
    have e8 : 8 - st.2 = 7 - st.2 + 1 := by omega
    have h8 : 2 ^ (8 - st.2) = 2 * 2 ^ (7 - st.2) := by rw [e8, Nat.pow_succ]; omega
    have e256 : 256 = 2 ^ (8 - st.2) * 2 ^ st.2 := by rw [← Nat.pow_add, show 8 - st.2 + st.2 = 8 by omega]
    have hk' : k < 2 ^ st.2 := by
      rw [hk, e256, Nat.mul_comm (2 ^ (8 - st.2))] at h256
      exact Nat.lt_of_mul_lt_mul_right h256
    have hsum : (k + 1) * 2 ^ (8 - st.2) ≤ 256 := by
      rw [e256, Nat.mul_comm (2 ^ (8 - st.2))]
      exact Nat.mul_le_mul_right _ hk'
    rw [Nat.add_mul] at hsum
    have hpos : 0 < 2 ^ (7 - st.2) := Nat.pow_pos (by decide)
    refine ⟨by omega, ?_, by omega⟩
    rw [hk, Nat.or_comm, or_shift (by rw [h8]; omega), Nat.add_comm]
theorem lastN_addLast {l : List UInt8} {v : Nat} (hl : l ≠ []) (hv : lastN l + v < 256) : lastN (addLast l v) = lastN l + v := by
  have : 0 < l.length := List.length_pos_iff.2 hl
  unfold lastN addLast at *
  rw [List.length_set]
  simp only [List.getD_eq_getElem?_getD, List.getElem?_set_self (show l.length - 1 < l.length by omega), Option.getD_some]
  simp only [UInt8.toNat_ofNat']
  exact Nat.mod_eq_of_lt hv
theorem WOK.one {way : Int} {st : List UInt8 × Nat} (h : WOK way st) {b : Nat} (hb : b ≤ 1) : WOK way (oneS way st b) := by
  have hn := grow_ne h
  obtain ⟨h1, _, _⟩ := place_new h hb
  have hl := lastN_addLast hn h1
  have hlt := h.lt
  have hle : b * 2 ^ pl way st.2 ≤ 1 * 2 ^ pl way st.2 := Nat.mul_le_mul_right _ hb
  refine ⟨Nat.mod_lt _ (by decide), fun _ => ?_, fun hu hw => ?_, fun hu hw => ?_⟩
  · intro e
    have : (addLast (grow st) (b * 2 ^ pl way st.2)).length = 0 := by
      show (oneS way st b).1.length = 0
      rw [e]; rfl
    unfold addLast at this
    rw [List.length_set] at this
    exact hn (List.eq_nil_of_length_eq_zero this)
  · show lastN (addLast (grow st) (b * 2 ^ pl way st.2)) < 2 ^ ((st.2 + 1) % 8)
    have hu' : (st.2 + 1) % 8 ≠ 0 := hu
    subst hw
    rw [hl, show (st.2 + 1) % 8 = st.2 + 1 by omega, Nat.pow_succ]
    have hx := grow_low h
    rw [show pl 1 st.2 = st.2 by simp [pl]] at hle ⊢
    omega
  · show ∃ k, lastN (addLast (grow st) (b * 2 ^ pl way st.2)) = k * 2 ^ (8 - (st.2 + 1) % 8)
    have hu' : (st.2 + 1) % 8 ≠ 0 := hu
    obtain ⟨k, hk⟩ := grow_high h hw
    rw [hl, hk, show (st.2 + 1) % 8 = st.2 + 1 by omega, show pl way st.2 = 7 - st.2 by simp [pl, hw], show 8 - (st.2 + 1) = 7 - st.2 by omega, show 8 - st.2 = 7 - st.2 + 1 by omega, Nat.pow_succ]
    exact ⟨k * 2 + b, by rw [Nat.add_mul, Nat.mul_assoc, Nat.mul_comm 2]⟩
/-- Bit i of the n that a number has, in the order of writing. -/
def vbit (way : Int) (v n i : Nat) : Nat := if way = 1 then v / 2 ^ i % 2 else v / 2 ^ (n - 1 - i) % 2
theorem vbit_le (way : Int) (v n i : Nat) : vbit way v n i ≤ 1 := by unfold vbit; split <;> omega
/-- After i of the n bits. -/
def putS (way : Int) (v n : Nat) (st : List UInt8 × Nat) : Nat → List UInt8 × Nat
  | 0 => st
  | i + 1 => oneS way (putS way v n st i) (vbit way v n i)
theorem WOK.put {way : Int} {st : List UInt8 × Nat} (h : WOK way st) (v n : Nat) : ∀ i, WOK way (putS way v n st i)
  | 0 => h
  | i + 1 => (h.put v n i).one (vbit_le _ _ _ _)
theorem grow_len (st : List UInt8 × Nat) : (grow st).length ≤ st.1.length + 1 := by unfold grow; split <;> simp
theorem oneS_len (way : Int) (st : List UInt8 × Nat) (b : Nat) : (oneS way st b).1.length = (grow st).length := by unfold oneS addLast; simp
theorem putS_len (way : Int) (v n : Nat) (st : List UInt8 × Nat) : ∀ i, (putS way v n st i).1.length ≤ st.1.length + i
  | 0 => Nat.le_refl _
  | i + 1 => by
    have := putS_len way v n st i
    have h2 := grow_len (putS way v n st i)
    show (oneS way _ _).1.length ≤ _
    rw [oneS_len]
    omega
/-- What Low and High of a writer answer: the error, what is written now, the order. -/
def putR (way : Int) (st : List UInt8 × Nat) (v n w' : Int) : Int × (List UInt8 × Nat) × Int :=
  if n < 0 ∨ 24 < n ∨ v < 0 ∨ 2 ^ n.toNat ≤ v ∨ (way ≠ 0 ∧ way ≠ w') then (1, st, way)
  else (0, putS w' v.toNat n.toNat st n.toNat, if 0 < n then w' else way)
theorem putR_arg {way : Int} {st : List UInt8 × Nat} {v n w' : Int} (h : n < 0 ∨ 24 < n ∨ v < 0 ∨ 2 ^ n.toNat ≤ v ∨ (way ≠ 0 ∧ way ≠ w')) : putR way st v n w' = (1, st, way) := if_pos h
theorem putR_ok {way : Int} {st : List UInt8 × Nat} {v n w' : Int} (h : ¬ (n < 0 ∨ 24 < n ∨ v < 0 ∨ 2 ^ n.toNat ≤ v ∨ (way ≠ 0 ∧ way ≠ w'))) :
    putR way st v n w' = (0, putS w' v.toNat n.toNat st n.toNat, if 0 < n then w' else way) := if_neg h
/-- What holds of a writer between calls. -/
structure WInv (way : Int) (st : List UInt8 × Nat) : Prop where
  ok : WOK way st
  none : way = 0 → st.2 = 0
theorem WInv.to {way : Int} {st : List UInt8 × Nat} (h : WInv way st) {w' : Int} (hn : ¬ (way ≠ 0 ∧ way ≠ w')) : WOK w' st := by
  by_cases hw : way = 0
  · obtain ⟨l, u⟩ := st
    have : u = 0 := h.none hw
    subst this
    exact WOK.zero _ _
  · have : way = w' := by
      by_cases e : way = w'
      · exact e
      · exact absurd ⟨hw, e⟩ hn
    exact this ▸ h.ok
theorem WInv.zero (l : List UInt8) : WInv 0 (l, 0) := ⟨WOK.zero _ _, fun _ => rfl⟩
theorem WInv.put {way : Int} {st : List UInt8 × Nat} (h : WInv way st) (v n : Int) {w' : Int} (hw : w' ≠ 0) : WInv (putR way st v n w').2.2 (putR way st v n w').2.1 := by
  by_cases hc : n < 0 ∨ 24 < n ∨ v < 0 ∨ 2 ^ n.toNat ≤ v ∨ (way ≠ 0 ∧ way ≠ w')
  · rw [putR_arg hc]; exact h
  · rw [putR_ok hc]
    dsimp only
    split
    · exact ⟨(h.to (by omega)).put _ _ _, fun e => absurd e hw⟩
    · have : n.toNat = 0 := by omega
      rw [this]
      exact h
theorem putR_len (way : Int) (st : List UInt8 × Nat) (v n w' : Int) : (putR way st v n w').2.1.1.length ≤ st.1.length + 24 := by
  unfold putR
  split
  · dsimp only; omega
  · dsimp only
    have := putS_len w' v.toNat n.toNat st n.toNat
    omega
theorem vbit_low (v i : Nat) (hv : v < 16777216) : iand .i64 (Int.fdiv (v : Int) (2 ^ i)) 1 = ((v / 2 ^ i % 2 : Nat) : Int) := by
  have h := @ediv_pow_bd (v : Int) i (by omega)
  rw [fdiv_pow, iand_one h.1 (by omega)]
  simp
end Bit
end Go.Proofs.Ytjkoafjnmkchdaa

/- What is written bit by bit is read back: plain laws, no program in sight. No condition. -/
namespace Go.Proofs.Ytjkoafjnmkchdaa
namespace Bit
open Sh
set_option linter.unusedVariables false
set_option linter.unusedSimpArgs false

def nb (l : List UInt8) (j : Nat) : Nat := (l.getD j 0).toNat
theorem lastN_nb (l : List UInt8) : lastN l = nb l (l.length - 1) := rfl
/-- Bit k of a byte, in an order. -/
def bitN (way : Int) (x k : Nat) : Nat := if way = 1 then x / 2 ^ k % 2 else x / 2 ^ (7 - k) % 2
theorem byt_nb (l : List UInt8) (j : Nat) : byt ⟨l.toArray⟩ j = (nb l j : Int) := by
  unfold byt nb
  simp [Array.getD_eq_getD_getElem?, List.getD_eq_getElem?_getD]
theorem bt_bitN (l : List UInt8) (way : Int) (q : Nat) : bt ⟨l.toArray⟩ way q = (bitN way (nb l (q / 8)) (q % 8) : Int) := by
  unfold bt bitN
  rw [byt_nb]
  split <;> simp
/-- How many bits are written. -/
def pos (st : List UInt8 × Nat) : Nat := if st.2 = 0 then 8 * st.1.length else 8 * (st.1.length - 1) + st.2
theorem pos_grow {way : Int} {st : List UInt8 × Nat} (h : WOK way st) : pos st = 8 * ((grow st).length - 1) + st.2 := by
  unfold pos grow
  split
  · rename_i h0; simp [h0]
  · rfl
theorem pos_one {way : Int} {st : List UInt8 × Nat} (h : WOK way st) (b : Nat) : pos (oneS way st b) = pos st + 1 := by
  have hlt := h.lt
  have hg := List.length_pos_iff.2 (grow_ne h)
  rw [pos_grow h]
  unfold pos
  rw [oneS_len]
  show (if (st.2 + 1) % 8 = 0 then _ else _ + (st.2 + 1) % 8) = _
  split <;> omega
theorem even_shift {x b i k : Nat} (hk : k < i) : (x + b * 2 ^ i) / 2 ^ k % 2 = x / 2 ^ k % 2 := by
  obtain ⟨d, rfl⟩ : ∃ d, i = k + (d + 1) := ⟨i - k - 1, by omega⟩
  have e : b * 2 ^ (k + (d + 1)) = 2 ^ k * (2 * (b * 2 ^ d)) := by
    rw [Nat.pow_add, Nat.pow_succ, Nat.mul_left_comm, Nat.mul_comm (2 ^ d) 2, Nat.mul_left_comm b]
  rw [e, Nat.add_mul_div_left _ _ (Nat.pow_pos (by decide))]
  omega
theorem bits_one {way : Int} {st : List UInt8 × Nat} (h : WOK way st) {b : Nat} (hb : b ≤ 1) : bitN way (lastN (grow st) + b * 2 ^ pl way st.2) st.2 = b ∧
    ∀ k, k < st.2 → bitN way (lastN (grow st) + b * 2 ^ pl way st.2) k = bitN way (lastN (grow st)) k := by
  have hlt := h.lt
  by_cases hw : way = 1
  · subst hw
    have hx := grow_low h
    simp only [bitN, pl, if_true]
    refine ⟨?_, fun k hk => even_shift hk⟩
    rw [Nat.add_mul_div_right _ _ (Nat.pow_pos (by decide)), Nat.div_eq_of_lt hx]
    omega
  · obtain ⟨m, hm⟩ := grow_high h hw
    simp only [bitN, pl, hw, if_false]
    have e : 2 ^ (8 - st.2) = 2 ^ (7 - st.2) * 2 := by rw [← Nat.pow_succ]; congr 1; omega
    have hs : lastN (grow st) + b * 2 ^ (7 - st.2) = 2 ^ (7 - st.2) * (2 * m + b) := by
      rw [hm, e, Nat.mul_add, Nat.mul_comm b, ← Nat.mul_assoc, Nat.mul_comm m, Nat.mul_assoc]
      rw [Nat.mul_comm 2 m]
    have hs0 : lastN (grow st) = 2 ^ (7 - st.2) * (2 * m) := by
      rw [hm, e, Nat.mul_comm m, Nat.mul_assoc]
    refine ⟨?_, fun k hk => ?_⟩
    · rw [hs, Nat.mul_div_cancel_left _ (Nat.pow_pos (by decide))]
      omega
    · have ek : 2 ^ (7 - k) = 2 ^ (7 - st.2) * (2 * 2 ^ (st.2 - k - 1)) := by
        rw [← Nat.pow_succ', ← Nat.pow_add]
        congr 1
        omega
      rw [hs, hs0, ek, Nat.mul_div_mul_left _ _ (Nat.pow_pos (by decide)), Nat.mul_div_mul_left _ _ (Nat.pow_pos (by decide)), ← Nat.div_div_eq_div_mul, ← Nat.div_div_eq_div_mul]
      congr 2
      omega
/-- T agrees with l in the first p bits, as read in this order. -/
def Agree (way : Int) (p : Nat) (l T : List UInt8) : Prop := (∀ j, j < p / 8 → T.getD j 0 = l.getD j 0) ∧ ∀ k, k < p % 8 → bitN way (nb T (p / 8)) k = bitN way (nb l (p / 8)) k
theorem Agree.refl (way : Int) (p : Nat) (l : List UInt8) : Agree way p l l := ⟨fun _ _ => rfl, fun _ _ => rfl⟩
theorem Agree.whole {way : Int} {n : Nat} {l T : List UInt8} (h : ∀ j, j < n → T.getD j 0 = l.getD j 0) : Agree way (8 * n) l T := ⟨fun j hj => h j (by omega), fun k hk => by omega⟩
theorem Agree.any {way way' : Int} {n : Nat} {l T : List UInt8} (h : Agree way (8 * n) l T) : Agree way' (8 * n) l T := ⟨h.1, fun k hk => by omega⟩
theorem Agree.one {way : Int} {st : List UInt8 × Nat} (h : WOK way st) {b : Nat} (hb : b ≤ 1) {T : List UInt8} (ha : Agree way (pos st + 1) (oneS way st b).1 T) :
    Agree way (pos st) st.1 T ∧ bitN way (nb T (pos st / 8)) (pos st % 8) = b := by
  have hlt := h.lt
  have hgn := grow_ne h
  have hg := List.length_pos_iff.2 hgn
  obtain ⟨h1, _, _⟩ := place_new h hb
  obtain ⟨b1, b2⟩ := bits_one h hb
  have hp := pos_grow h
  have e1 : pos st / 8 = (grow st).length - 1 := by omega
  have e2 : pos st % 8 = st.2 := by omega
  have hnew : nb (oneS way st b).1 ((grow st).length - 1) = lastN (grow st) + b * 2 ^ pl way st.2 := by
    have := lastN_addLast hgn h1
    rw [lastN_nb] at this
    unfold addLast at this
    rw [List.length_set] at this
    exact this
  have hold : ∀ j, j < (grow st).length - 1 → (oneS way st b).1.getD j 0 = st.1.getD j 0 := fun j hj => by
    show (List.set _ _ _).getD j 0 = _
    rw [List.getD_eq_getElem?_getD, List.getElem?_set_ne (by omega)]
    unfold grow at hj ⊢
    split
    · rename_i h0
      rw [if_pos h0] at hj
      rw [List.getElem?_append_left (by simp at hj; exact hj), List.getD_eq_getElem?_getD]
    · rw [List.getD_eq_getElem?_getD]
  have hT : ∀ k, k ≤ st.2 → bitN way (nb T ((grow st).length - 1)) k = bitN way (lastN (grow st) + b * 2 ^ pl way st.2) k := fun k hk => by
    by_cases h8 : st.2 + 1 = 8
    · have := ha.1 ((grow st).length - 1) (by omega)
      have : nb T ((grow st).length - 1) = nb (oneS way st b).1 ((grow st).length - 1) := by unfold nb; rw [this]
      rw [this, hnew]
    · have := ha.2 k (by omega)
      rw [show (pos st + 1) / 8 = (grow st).length - 1 by omega, hnew] at this
      exact this
  refine ⟨⟨fun j hj => ?_, fun k hk => ?_⟩, ?_⟩
  · rw [ha.1 j (by omega)]
    exact hold j (by omega)
  · rw [e1]
    rw [e2] at hk
    rw [hT k (by omega), b2 k hk, lastN_nb]
    unfold grow
    rw [if_neg (by omega)]
  · rw [e1, e2, hT _ (Nat.le_refl _), b1]
theorem pos_put {way : Int} {st : List UInt8 × Nat} (h : WOK way st) (v n : Nat) : ∀ i, pos (putS way v n st i) = pos st + i
  | 0 => rfl
  | i + 1 => by
    show pos (oneS way _ _) = _
    rw [pos_one (h.put v n i), pos_put h v n i, Nat.add_assoc]
theorem Agree.put {way : Int} {st : List UInt8 × Nat} (h : WOK way st) (v n : Nat) {T : List UInt8} : ∀ i, Agree way (pos st + i) (putS way v n st i).1 T →
    Agree way (pos st) st.1 T ∧ ∀ j, j < i → bitN way (nb T ((pos st + j) / 8)) ((pos st + j) % 8) = vbit way v n j
  | 0, ha => ⟨ha, fun j hj => by omega⟩
  | i + 1, ha => by
    have hok := h.put v n i
    have hp := pos_put h v n i
    rw [← Nat.add_assoc, ← hp] at ha
    obtain ⟨h1, h2⟩ := Agree.one hok (vbit_le way v n i) ha
    rw [hp] at h1 h2
    obtain ⟨h3, h4⟩ := Agree.put h v n i h1
    refine ⟨h3, fun j hj => ?_⟩
    by_cases hji : j = i
    · subst hji; exact h2
    · exact h4 j (by omega)
theorem tk_bits {T : List UInt8} {way : Int} {p v n : Nat} (hv : v < 2 ^ n) (hb : ∀ j, j < n → bitN way (nb T ((p + j) / 8)) ((p + j) % 8) = vbit way v n j) : tk ⟨T.toArray⟩ way p n = (v : Int) := by
  by_cases hw : way = 1
  · subst hw
    have key : ∀ i, i ≤ n → tk ⟨T.toArray⟩ 1 p i = ((v % 2 ^ i : Nat) : Int) := by
      intro i
      induction i with
      | zero => intro _; simp [tk, Nat.mod_one]
      | succ i ih =>
        intro hi
        have h1 := hb i (by omega)
        simp only [tk, if_true]
        rw [ih (by omega), bt_bitN, h1, Nat.mod_pow_succ]
        simp [vbit, Int.mul_comm]
    rw [key n (Nat.le_refl _), Nat.mod_eq_of_lt hv]
  · have key : ∀ i, i ≤ n → tk ⟨T.toArray⟩ way p i = ((v / 2 ^ (n - i) : Nat) : Int) := by
      intro i
      induction i with
      | zero => intro _; simp [tk, Nat.div_eq_of_lt hv]
      | succ i ih =>
        intro hi
        have h1 := hb i (by omega)
        simp only [tk, hw, if_false]
        rw [ih (by omega), bt_bitN, h1]
        simp only [vbit, hw, if_false]
        rw [show n - i = n - 1 - i + 1 by omega, show n - (i + 1) = n - 1 - i by omega, Nat.pow_succ, ← Nat.div_div_eq_div_mul]
        generalize v / 2 ^ (n - 1 - i) = y
        omega
    rw [key n (Nat.le_refl _)]
    simp

/-! ### A list of calls -/

/-- One call of the list. -/
structure Ask where
  d : Int
  n : Int
  v : Int
  s : ByteArray
def numN (q : Ask) : Nat := q.n.natAbs % 25
def numV (q : Ask) : Nat := q.v.natAbs % 2 ^ numN q
theorem numN_lt (q : Ask) : numN q < 25 := Nat.mod_lt _ (by decide)
theorem numV_lt (q : Ask) : numV q < 2 ^ numN q := Nat.mod_lt _ (Nat.pow_pos (by decide))
def rawS (st : List UInt8 × Nat) (t : ByteArray) : List UInt8 × Nat := (st.1 ++ t.data.toList, 0)
def rawWay (way : Int) (st : List UInt8 × Nat) : Int := if st.2 = 0 then way else 0
/-- Is there an Align ahead of call i? -/
def al (f : Nat → Ask) (i : Nat) : Prop := (0 < i ∧ (f i).d ≠ (f (i - 1)).d) ∨ 1 < (f i).d ∨ (f i).d < 0
open Classical in
noncomputable def stepA (f : Nat → Ask) (i : Nat) (W : Int × (List UInt8 × Nat)) : Int × (List UInt8 × Nat) := if al f i then (0, (W.2.1, 0)) else W
def stepC (q : Ask) (W : Int × (List UInt8 × Nat)) : Int × (List UInt8 × Nat) :=
  if q.d = 0 then (if 0 < ((numN q : Nat) : Int) then 1 else W.1, putS 1 (numV q) (numN q) W.2 (numN q))
  else if q.d = 1 then (if 0 < ((numN q : Nat) : Int) then 2 else W.1, putS 2 (numV q) (numN q) W.2 (numN q))
  else if q.d = 3 then (rawWay W.1 W.2, rawS W.2 q.s)
  else W
/-- What is written after i calls. -/
noncomputable def Wr (f : Nat → Ask) : Nat → Int × (List UInt8 × Nat)
  | 0 => (0, ([], 0))
  | i + 1 => stepC (f i) (stepA f i (Wr f i))
theorem stepA_yes {f : Nat → Ask} {i : Nat} {W : Int × (List UInt8 × Nat)} (h : al f i) : stepA f i W = (0, (W.2.1, 0)) := if_pos h
theorem stepA_no {f : Nat → Ask} {i : Nat} {W : Int × (List UInt8 × Nat)} (h : ¬ al f i) : stepA f i W = W := if_neg h
theorem WInv.putS {way : Int} {st : List UInt8 × Nat} (h : WInv way st) (v n : Nat) {w' : Int} (hw : w' = 1 ∨ w' = 2) (hc : way = 0 ∨ way = w') : WInv (if 0 < ((n : Nat) : Int) then w' else way) (putS w' v n st n) := by
  split
  · exact ⟨(h.to (by omega)).put _ _ _, fun e => by omega⟩
  · have : n = 0 := by omega
    subst this
    exact h
/-- What holds after the Align that may stand ahead of call i. -/
structure Ready (q : Ask) (A : Int × (List UInt8 × Nat)) : Prop where
  inv : WInv A.1 A.2
  low : q.d = 0 → A.1 = 0 ∨ A.1 = 1
  high : q.d = 1 → A.1 = 0 ∨ A.1 = 2
  whole : q.d ≠ 0 → q.d ≠ 1 → A.1 = 0 ∧ A.2.2 = 0
theorem Wr_facts (f : Nat → Ask) : ∀ i, WInv (Wr f i).1 (Wr f i).2 ∧ ((Wr f i).1 = 0 ∨ ∃ j, i = j + 1 ∧ (((f j).d = 0 ∧ (Wr f i).1 = 1) ∨ ((f j).d = 1 ∧ (Wr f i).1 = 2))) ∧ Ready (f i) (stepA f i (Wr f i)) := by
  have ready : ∀ i, WInv (Wr f i).1 (Wr f i).2 → ((Wr f i).1 = 0 ∨ ∃ j, i = j + 1 ∧ (((f j).d = 0 ∧ (Wr f i).1 = 1) ∨ ((f j).d = 1 ∧ (Wr f i).1 = 2))) → Ready (f i) (stepA f i (Wr f i)) := fun i hi hc => by
    by_cases ha : al f i
    · rw [stepA_yes ha]
      exact ⟨WInv.zero _, fun _ => .inl rfl, fun _ => .inl rfl, fun _ _ => ⟨rfl, rfl⟩⟩
    · rw [stepA_no ha]
      unfold al at ha
      rcases hc with hc | ⟨j, rfl, hc⟩
      · exact ⟨hi, fun _ => .inl hc, fun _ => .inl hc, fun h0 h1 => by omega⟩
      · have hd : (f (j + 1)).d = (f j).d := by
          by_cases e : (f (j + 1)).d = (f j).d
          · exact e
          · exact absurd (.inl ⟨by omega, by simpa using e⟩) ha
        exact ⟨hi, fun _ => by omega, fun _ => by omega, fun h0 h1 => by omega⟩
  intro i
  induction i with
  | zero => exact ⟨WInv.zero _, .inl rfl, ready 0 (WInv.zero _) (.inl rfl)⟩
  | succ i ih =>
    obtain ⟨_, _, hr⟩ := ih
    have key : WInv (Wr f (i + 1)).1 (Wr f (i + 1)).2 ∧ ((Wr f (i + 1)).1 = 0 ∨ ∃ j, i + 1 = j + 1 ∧ (((f j).d = 0 ∧ (Wr f (i + 1)).1 = 1) ∨ ((f j).d = 1 ∧ (Wr f (i + 1)).1 = 2))) := by
      show WInv (stepC (f i) (stepA f i (Wr f i))).1 (stepC (f i) (stepA f i (Wr f i))).2 ∧ ((stepC (f i) (stepA f i (Wr f i))).1 = 0 ∨ ∃ j, i + 1 = j + 1 ∧ (((f j).d = 0 ∧ (stepC (f i) (stepA f i (Wr f i))).1 = 1) ∨ ((f j).d = 1 ∧ (stepC (f i) (stepA f i (Wr f i))).1 = 2)))
      generalize stepA f i (Wr f i) = A at hr ⊢
      unfold stepC
      split
      · rename_i h0
        have hl := hr.low h0
        refine ⟨hr.inv.putS _ _ (.inl rfl) hl, ?_⟩
        dsimp only
        split
        · exact .inr ⟨i, rfl, .inl ⟨h0, rfl⟩⟩
        · exact hl.imp id fun h => ⟨i, rfl, .inl ⟨h0, h⟩⟩
      · rename_i h0
        split
        · rename_i h1
          have hl := hr.high h1
          refine ⟨hr.inv.putS _ _ (.inr rfl) hl, ?_⟩
          dsimp only
          split
          · exact .inr ⟨i, rfl, .inr ⟨h1, rfl⟩⟩
          · exact hl.imp id fun h => ⟨i, rfl, .inr ⟨h1, h⟩⟩
        · rename_i h1
          obtain ⟨w1, w2⟩ := hr.whole h0 h1
          split
          · have : rawWay A.1 A.2 = 0 := by unfold rawWay; rw [if_pos w2]; exact w1
            dsimp only
            rw [this]
            exact ⟨⟨WOK.zero _ _, fun _ => rfl⟩, .inl rfl⟩
          · exact ⟨hr.inv, .inl w1⟩
    exact ⟨key.1, key.2, ready _ key.1 key.2⟩
theorem Agree.at0 {way way' : Int} {st : List UInt8 × Nat} {T : List UInt8} (h0 : st.2 = 0) (h : Agree way (pos st) st.1 T) : Agree way' (pos st) st.1 T := by
  have : pos st = 8 * st.1.length := by unfold pos; rw [if_pos h0]
  rw [this] at h ⊢
  exact h.any
/-- What call i finds when it is made again on what was written, T. -/
structure Back (q : Ask) (A B : Int × (List UInt8 × Nat)) (T : List UInt8) : Prop where
  before : Agree A.1 (pos A.2) A.2.1 T
  low : q.d = 0 → tk ⟨T.toArray⟩ 1 (pos A.2) (numN q) = (numV q : Int) ∧ pos B.2 = pos A.2 + numN q ∧ B.1 = if 0 < ((numN q : Nat) : Int) then 1 else A.1
  high : q.d = 1 → tk ⟨T.toArray⟩ 2 (pos A.2) (numN q) = (numV q : Int) ∧ pos B.2 = pos A.2 + numN q ∧ B.1 = if 0 < ((numN q : Nat) : Int) then 2 else A.1
  raw : q.d = 3 → pos B.2 = pos A.2 + 8 * q.s.size ∧ B.1 = A.1 ∧ ∀ j, j < q.s.size → T.getD (pos A.2 / 8 + j) 0 = q.s.data.toList.getD j 0
  other : q.d ≠ 0 → q.d ≠ 1 → q.d ≠ 3 → B = A
  le : pos A.2 ≤ pos B.2
theorem back_put {A : Int × (List UInt8 × Nat)} (hi : WInv A.1 A.2) {w' : Int} (hc : A.1 = 0 ∨ A.1 = w') {v n : Nat} (hv : v < 2 ^ n) {T : List UInt8}
    (ha : Agree (if 0 < ((n : Nat) : Int) then w' else A.1) (pos (putS w' v n A.2 n)) (putS w' v n A.2 n).1 T) : Agree A.1 (pos A.2) A.2.1 T ∧ tk ⟨T.toArray⟩ w' (pos A.2) n = (v : Int) ∧ pos (putS w' v n A.2 n) = pos A.2 + n := by
  have hok : WOK w' A.2 := hi.to (by omega)
  have hp := pos_put hok v n n
  by_cases hn : n = 0
  · subst hn
    have : v = 0 := by simpa using hv
    subst this
    exact ⟨ha, rfl, rfl⟩
  · rw [if_pos (by omega), hp] at ha
    obtain ⟨h1, h2⟩ := Agree.put hok v n n ha
    refine ⟨?_, tk_bits hv h2, hp⟩
    rcases hc with hc | hc
    · exact h1.at0 (hi.none hc)
    · rw [hc]; exact h1
theorem back_of {f : Nat → Ask} {i : Nat} {T : List UInt8} (ha : Agree (Wr f (i + 1)).1 (pos (Wr f (i + 1)).2) (Wr f (i + 1)).2.1 T) : Back (f i) (stepA f i (Wr f i)) (Wr f (i + 1)) T := by
  obtain ⟨_, _, hr⟩ := Wr_facts f i
  have e : Wr f (i + 1) = stepC (f i) (stepA f i (Wr f i)) := rfl
  rw [e] at ha ⊢
  generalize stepA f i (Wr f i) = A at hr ha ⊢
  unfold stepC at ha ⊢
  split at ha
  · rename_i h0
    rw [if_pos h0]
    obtain ⟨g1, g2, g3⟩ := back_put hr.inv (hr.low h0) (numV_lt _) ha
    exact ⟨g1, fun _ => ⟨g2, g3, rfl⟩, fun h => by omega, fun h => by omega, fun h => absurd h0 h, by dsimp only; omega⟩
  · rename_i h0
    rw [if_neg h0]
    split at ha
    · rename_i h1
      rw [if_pos h1]
      obtain ⟨g1, g2, g3⟩ := back_put hr.inv (hr.high h1) (numV_lt _) ha
      exact ⟨g1, fun h => by omega, fun _ => ⟨g2, g3, rfl⟩, fun h => by omega, fun _ h => absurd h1 h, by dsimp only; omega⟩
    · rename_i h1
      rw [if_neg h1]
      obtain ⟨w1, w2⟩ := hr.whole h0 h1
      have hpA : pos A.2 = 8 * A.2.1.length := by unfold pos; rw [if_pos w2]
      split at ha
      · rename_i h3
        rw [if_pos h3]
        have hsz : (f i).s.data.toList.length = (f i).s.size := Array.length_toList
        have hpB : pos (rawS A.2 (f i).s) = 8 * (A.2.1.length + (f i).s.size) := by
          show 8 * (A.2.1 ++ (f i).s.data.toList).length = _
          rw [List.length_append, hsz]
        dsimp only at ha
        rw [hpB] at ha
        have hT : ∀ j, j < A.2.1.length + (f i).s.size → T.getD j 0 = (A.2.1 ++ (f i).s.data.toList).getD j 0 := fun j hj => ha.1 j (by omega)
        refine ⟨?_, fun h => by omega, fun h => by omega, fun _ => ⟨?_, ?_, fun j hj => ?_⟩, fun _ _ h => absurd h3 h, ?_⟩
        · rw [hpA]
          exact Agree.whole fun j hj => by
            rw [hT j (by omega), List.getD_eq_getElem?_getD, List.getElem?_append_left hj, List.getD_eq_getElem?_getD]
        · dsimp only; rw [hpB, hpA]; omega
        · unfold rawWay; rw [if_pos w2]
        · rw [hpA, show 8 * A.2.1.length / 8 = A.2.1.length by omega, hT _ (by omega), List.getD_eq_getElem?_getD, List.getElem?_append_right (by omega), List.getD_eq_getElem?_getD]
          congr 2
          omega
        · dsimp only; rw [hpB, hpA]; omega
      · rename_i h3
        rw [if_neg h3]
        exact ⟨ha, fun h => by omega, fun h => by omega, fun h => absurd h h3, fun _ _ _ => rfl, Nat.le_refl _⟩
theorem stepA_agree {f : Nat → Ask} {i : Nat} {T : List UInt8} (ha : Agree (stepA f i (Wr f i)).1 (pos (stepA f i (Wr f i)).2) (stepA f i (Wr f i)).2.1 T) :
    Agree (Wr f i).1 (pos (Wr f i).2) (Wr f i).2.1 T ∧ pos (Wr f i).2 ≤ pos (stepA f i (Wr f i)).2 := by
  by_cases h : al f i
  · rw [stepA_yes h] at ha ⊢
    have hT : ∀ j, j < (Wr f i).2.1.length → T.getD j 0 = (Wr f i).2.1.getD j 0 := fun j hj => ha.1 j (by show j < 8 * (Wr f i).2.1.length / 8; omega)
    have hok := (Wr_facts f i).1.ok
    have hlt := hok.lt
    have hne := hok.ne
    have hl : pos (Wr f i).2 ≤ 8 * (Wr f i).2.1.length := by
      unfold pos
      split
      · omega
      · rename_i h0
        have := List.length_pos_iff.2 (hne h0)
        omega
    refine ⟨⟨fun j hj => hT j (by omega), fun k hk => ?_⟩, ?_⟩
    · unfold nb
      rw [hT _ (by omega)]
    · show _ ≤ 8 * (Wr f i).2.1.length
      exact hl
  · rw [stepA_no h] at ha ⊢
    exact ⟨ha, Nat.le_refl _⟩
/-- What was written by N calls agrees with what each call left. -/
theorem agree_all (f : Nat → Ask) (N : Nat) : ∀ k i, i + k = N → Agree (Wr f i).1 (pos (Wr f i).2) (Wr f i).2.1 (Wr f N).2.1 ∧ pos (Wr f i).2 ≤ pos (Wr f N).2
  | 0, i, h => by
    have : i = N := by omega
    subst this
    exact ⟨Agree.refl _ _ _, Nat.le_refl _⟩
  | k + 1, i, h => by
    obtain ⟨h1, h2⟩ := agree_all f N k (i + 1) (by omega)
    have hb := back_of h1
    obtain ⟨h3, h4⟩ := stepA_agree hb.before
    have := hb.le
    exact ⟨h3, by omega⟩
theorem pos_le (f : Nat → Ask) (i : Nat) : pos (Wr f i).2 ≤ 8 * (Wr f i).2.1.length ∧ 8 * (Wr f i).2.1.length < pos (Wr f i).2 + 8 := by
  have hok := (Wr_facts f i).1.ok
  have hlt := hok.lt
  unfold pos
  split
  · omega
  · rename_i h0
    have := List.length_pos_iff.2 (hok.ne h0)
    omega
theorem Wr_len (f : Nat → Ask) : ∀ i, (∀ j, j < i → (f j).s.size ≤ 300) → (Wr f i).2.1.length ≤ 300 * i
  | 0, _ => by simp [Wr]
  | i + 1, h => by
    have ih := Wr_len f i fun j hj => h j (by omega)
    have hA : (stepA f i (Wr f i)).2.1 = (Wr f i).2.1 := by
      by_cases ha : al f i
      · rw [stepA_yes ha]
      · rw [stepA_no ha]
    have hi := h i (by omega)
    have hn := numN_lt (f i)
    show (stepC (f i) (stepA f i (Wr f i))).2.1.length ≤ _
    unfold stepC
    split
    · have := putS_len 1 (numV (f i)) (numN (f i)) (stepA f i (Wr f i)).2 (numN (f i))
      rw [hA] at this
      dsimp only; omega
    · split
      · have := putS_len 2 (numV (f i)) (numN (f i)) (stepA f i (Wr f i)).2 (numN (f i))
        rw [hA] at this
        dsimp only; omega
      · split
        · have hsz : (f i).s.data.toList.length = (f i).s.size := Array.length_toList
          show ((stepA f i (Wr f i)).2.1 ++ (f i).s.data.toList).length ≤ _
          rw [List.length_append, hA, hsz]; omega
        · rw [hA]; omega
/-- A part of the bytes, as a string. -/
theorem extract_eq {T : List UInt8} {s : ByteArray} {a : Nat} (hl : a + s.size ≤ T.length) (h : ∀ j, j < s.size → T.getD (a + j) 0 = s.data.toList.getD j 0) : (⟨T.toArray⟩ : ByteArray).extract a (a + s.size) = s := by
  apply ByteArray.ext
  rw [ByteArray.data_extract]
  apply Array.ext
  · simp only [Array.size_extract, List.size_toArray]
    show min (a + s.size) T.length - a = s.size
    omega
  · intro i h1 h2
    have hi : i < s.size := h2
    have := h i hi
    rw [List.getD_eq_getElem?_getD, List.getD_eq_getElem?_getD, List.getElem?_eq_getElem (by omega), List.getElem?_eq_getElem (by rw [Array.length_toList]; exact h2)] at this
    simpa using this
end Bit
end Go.Proofs.Ytjkoafjnmkchdaa

/- Inflate: what a writer writes of a canonical code is read back; plain laws. Conditions: a code's lengths. -/
namespace Go.Proofs.Ytjkoafjnmkchdaa
namespace Inf
open Sh Bit
set_option linter.unusedVariables false
set_option linter.unusedSimpArgs false
set_option maxRecDepth 4000
set_option maxHeartbeats 1000000
abbrev WS := List UInt8 × Nat
/-- n bits of v, least significant first. -/
def lw (st : WS) (v n : Nat) : WS := putS 1 v n st n
/-- i of the n bits of c, most significant first. -/
def hw (st : WS) (c n : Nat) : Nat → WS
  | 0 => st
  | i + 1 => oneS 1 (hw st c n i) (c / 2 ^ (n - 1 - i) % 2)
/-- The code of a sign. -/
def cw (lens : List Int) (st : WS) (g : Nat) : WS := hw st (codeL lens g).toNat (lens.getD g 0).toNat (lens.getD g 0).toNat
section
variable {st : WS} {T : List UInt8}
theorem bit_le (x : Nat) : x % 2 ≤ 1 := by omega
theorem hw_ok (h : WOK 1 st) (c n : Nat) : ∀ i, WOK 1 (hw st c n i)
  | 0 => h
  | i + 1 => (hw_ok h c n i).one (bit_le _)
theorem hw_pos (h : WOK 1 st) (c n : Nat) : ∀ i, pos (hw st c n i) = pos st + i
  | 0 => rfl
  | i + 1 => by
    show pos (oneS 1 _ _) = _
    rw [pos_one (hw_ok h c n i), hw_pos h c n i, Nat.add_assoc]
theorem hw_len (st : WS) (c n : Nat) : ∀ i, (hw st c n i).1.length ≤ st.1.length + i
  | 0 => Nat.le_refl _
  | i + 1 => by
    have := hw_len st c n i
    have h2 := grow_len (hw st c n i)
    show (oneS 1 _ _).1.length ≤ _
    rw [oneS_len]
    omega
theorem hw_back (h : WOK 1 st) (c n : Nat) : ∀ i, Agree 1 (pos st + i) (hw st c n i).1 T → Agree 1 (pos st) st.1 T ∧ ∀ j, j < i → bt ⟨T.toArray⟩ 1 (pos st + j) = ((c / 2 ^ (n - 1 - j) % 2 : Nat) : Int)
  | 0, ha => ⟨ha, fun j hj => by omega⟩
  | i + 1, ha => by
    have hok := hw_ok h c n i
    have hp := hw_pos h c n i
    rw [← Nat.add_assoc, ← hp] at ha
    obtain ⟨h1, h2⟩ := Agree.one hok (bit_le _) ha
    rw [hp] at h1 h2
    obtain ⟨h3, h4⟩ := hw_back h c n i h1
    refine ⟨h3, fun j hj => ?_⟩
    by_cases hji : j = i
    · subst hji; rw [bt_bitN, h2]
    · exact h4 j (by omega)
theorem lw_ok (h : WOK 1 st) (v n : Nat) : WOK 1 (lw st v n) := h.put v n n
theorem lw_pos (h : WOK 1 st) (v n : Nat) : pos (lw st v n) = pos st + n := pos_put h v n n
theorem lw_len (st : WS) (v n : Nat) : (lw st v n).1.length ≤ st.1.length + n := putS_len 1 v n st n
theorem lw_back (h : WOK 1 st) {v n : Nat} (hv : v < 2 ^ n) (ha : Agree 1 (pos (lw st v n)) (lw st v n).1 T) : Agree 1 (pos st) st.1 T ∧ (pos st + n ≤ 8 * T.length → num ⟨T.toArray⟩ (pos st) n = .ok ((v : Int), pos st + n)) := by
  rw [lw_pos h] at ha
  obtain ⟨h1, h2⟩ := Agree.put h v n n ha
  refine ⟨h1, fun hT => ?_⟩
  unfold num
  rw [if_pos (by show pos st + n ≤ 8 * T.toArray.size; simpa using hT), tk_bits hv h2]
end
/-! ### Kraft's sum -/
theorem kS_fs {lens : List Int} : ∀ n, n + 1 ≤ 15 → kS lens lens.length (n + 1) = (fs (cn lens) (n + 1) + cn lens (n + 1)) * 2 ^ (15 - (n + 1))
  | 0, _ => by
    have e : cn lens 1 = (cnt lens 1 : Int) := rfl
    show (0 : Int) + (cntT lens 1 lens.length : Int) * 2 ^ (15 - 1) = (0 + cn lens 1) * _
    rw [e, Int.zero_add, Int.zero_add]
    rfl
  | n + 1, h => by
    have ih := kS_fs (lens := lens) n (by omega)
    have e : cn lens (n + 1 + 1) = (cnt lens (n + 1 + 1) : Int) := rfl
    have e1 : kS lens lens.length (n + 1 + 1) = kS lens lens.length (n + 1) + (cnt lens (n + 1 + 1) : Int) * 2 ^ (15 - (n + 1 + 1)) := rfl
    have e2 : fs (cn lens) (n + 1 + 1) = 2 * (fs (cn lens) (n + 1) + cn lens (n + 1)) := rfl
    have e3 : (2 : Int) ^ (15 - (n + 1)) = 2 * 2 ^ (15 - (n + 1 + 1)) := by rw [show 15 - (n + 1) = 15 - (n + 1 + 1) + 1 by omega, two_pow_succ]
    rw [e1, ih, e, e2, e3]
    generalize fs (cn lens) (n + 1) + cn lens (n + 1) = a
    rw [Int.add_mul, Int.mul_left_comm, Int.mul_assoc]
theorem kS_mono {lens : List Int} (i : Nat) : ∀ l d, kS lens i l ≤ kS lens i (l + d)
  | l, 0 => Int.le_refl _
  | l, d + 1 => by
    have h1 := kS_mono (lens := lens) i l d
    have h2 : kS lens i (l + (d + 1)) = kS lens i (l + d) + (cntT lens (l + d + 1) i : Int) * 2 ^ (15 - (l + d + 1)) := rfl
    have h3 : (0 : Int) ≤ (cntT lens (l + d + 1) i : Int) * 2 ^ (15 - (l + d + 1)) := Int.mul_nonneg (by omega) (Int.le_of_lt (two_pow_pos _))
    omega
theorem kr_used {lens : List Int} (hk : Lok lens) : ∀ i, kr lens i ≤ usedT lens i * 16384 ∧ 0 ≤ usedT lens i
  | 0 => ⟨by show (0 : Int) ≤ 0 * 16384; decide, Int.le_refl _⟩
  | i + 1 => by
    obtain ⟨h1, h2⟩ := kr_used hk i
    have hn := hk.nn i
    have u : usedT lens (i + 1) = if lens.getD i 0 ≠ 0 then usedT lens i + 1 else usedT lens i := rfl
    have k : kr lens (i + 1) = if 0 < lens.getD i 0 then kr lens i + 2 ^ (15 - (lens.getD i 0).toNat) else kr lens i := rfl
    by_cases h0 : lens.getD i 0 = 0
    · rw [if_neg (by omega)] at k
      rw [if_neg (fun hh => hh h0)] at u
      rw [k, u]
      exact ⟨h1, h2⟩
    · rw [if_pos (by omega)] at k
      rw [if_pos h0] at u
      have hp := two_pow_le (show 15 - (lens.getD i 0).toNat ≤ 14 by omega)
      have h14 : (2 : Int) ^ 14 = 16384 := by decide
      rw [k, u]
      omega
theorem kr_le {lens : List Int} (h : chk lens = 0) : kr lens lens.length ≤ 32768 := by
  have hk := chk_lok h
  rw [chk_rest hk] at h
  obtain ⟨h1, h2⟩ := kr_used hk lens.length
  split at h
  · rename_i hc
    rcases hc with hc | hc | ⟨hc, _⟩ <;> omega
  · cases h
/-- A code fits its length. -/
theorem code_fits {lens : List Int} (h : chk lens = 0) {n : Nat} (h1 : 1 ≤ n) (h15 : n ≤ 15) : fs (cn lens) n + cn lens n ≤ 2 ^ n := by
  have hk := chk_lok h
  obtain ⟨m, rfl⟩ : ∃ m, n = m + 1 := ⟨n - 1, by omega⟩
  have a := kS_fs (lens := lens) m h15
  have b := kS_mono (lens := lens) lens.length (m + 1) (15 - (m + 1))
  rw [show m + 1 + (15 - (m + 1)) = 15 by omega, kS_kr hk, a] at b
  have c := kr_le h
  have hp := two_pow_pos (15 - (m + 1))
  have e : (32768 : Int) = 2 ^ (m + 1) * 2 ^ (15 - (m + 1)) := by rw [← Int.pow_add, show m + 1 + (15 - (m + 1)) = 15 by omega]; decide
  exact Int.le_of_mul_le_mul_right (by omega) hp
theorem fs_nn {lens : List Int} (hk : Lok lens) (n : Nat) : 0 ≤ fs (cn lens) n := (fs_bd (fun n => cn_bd hk.len n) n).1
theorem fs_ge {lens : List Int} (hk : Lok lens) {m : Nat} (h1 : 1 ≤ m) : ∀ d, (fs (cn lens) m + cn lens m) * 2 ^ (d + 1) ≤ fs (cn lens) (m + (d + 1))
  | 0 => by
    obtain ⟨x, rfl⟩ : ∃ x, m = x + 1 := ⟨m - 1, by omega⟩
    show _ ≤ 2 * (fs (cn lens) (x + 1) + cn lens (x + 1))
    rw [Int.mul_comm]
    exact Int.le_refl _
  | d + 1 => by
    have ih := fs_ge hk h1 d
    have hc := (cn_bd hk.len (m + (d + 1))).1
    have e : fs (cn lens) (m + (d + 1 + 1)) = 2 * (fs (cn lens) (m + (d + 1)) + cn lens (m + (d + 1))) := by
      obtain ⟨x, rfl⟩ : ∃ x, m = x + 1 := ⟨m - 1, by omega⟩
      rw [show x + 1 + (d + 1 + 1) = (x + d + 1) + 2 by omega, show x + 1 + (d + 1) = x + d + 1 + 1 by omega]
      rfl
    rw [e, two_pow_succ, Int.mul_left_comm]
    omega
/-- What is known of a sign's code. -/
theorem code_of {lens : List Int} (h : chk lens = 0) {g n : Nat} (hg : g < lens.length) (hn : lens.getD g 0 = (n : Int)) (h0 : 0 < n) : 1 ≤ n ∧ n ≤ 15 ∧ n ≤ longest lens ∧
    ∃ c : Nat, (codeL lens g).toNat = c ∧ (c : Int) = codeL lens g ∧ (c : Int) = fs (cn lens) n + (cntT lens n g : Int) ∧ c < 2 ^ n := by
  have hk := chk_lok h
  have hnn := hk.nn g
  have h15 : n ≤ 15 := by omega
  have hl := lens_long (lens := lens) lens.length g hg
  have hf := fs_nn hk n
  have hx := idxs_at hn hg
  have hfit := code_fits h h0 h15
  have hc : codeL lens g = fs (cn lens) n + (cntT lens n g : Int) := by
    unfold codeL
    rw [if_pos (by omega), hn, Int.toNat_natCast]
  have hcn : cn lens n = (cnt lens n : Int) := by unfold cn; rw [if_neg (by omega)]
  refine ⟨h0, h15, by unfold longest; omega, (codeL lens g).toNat, rfl, by omega, by omega, ?_⟩
  have e : ((2 ^ n : Nat) : Int) = 2 ^ n := by simp
  omega
/-- The code's bits, most significant first, are read as the sign. -/
theorem sym_code {lens : List Int} (h : chk lens = 0) {s : ByteArray} {p g n c : Nat} (hg : g < lens.length) (hn : lens.getD g 0 = (n : Int)) (h0 : 0 < n) (hc : (codeL lens g).toNat = c)
    (hb : ∀ j, j < n → bt s 1 (p + j) = ((c / 2 ^ (n - 1 - j) % 2 : Nat) : Int)) (hs : p + n ≤ 8 * s.size) : sym lens s p = .ok (g, p + n) := by
  have hk := chk_lok h
  obtain ⟨_, h15, hll, c', hc', _, hcv, hlt⟩ := code_of h hg hn h0
  rw [hc] at hc'
  subst hc'
  have hx := idxs_at hn hg
  have key : ∀ d m : Nat, m + d = n → 1 ≤ m → ∀ f : Int, fs (cn lens) m = 2 * f → sgo lens s (longest lens + 1 - m) m ((c / 2 ^ (d + 1) : Nat) : Int) f (p + (m - 1)) = .ok (g, p + n) := fun d => by
    induction d with
    | zero =>
      intro m hm h1 f hf
      obtain rfl : m = n := by omega
      obtain ⟨k, hk'⟩ : ∃ k, longest lens + 1 - m = k + 1 := ⟨longest lens - m, by omega⟩
      rw [hk']
      unfold sgo
      have hbm := hb (m - 1) (by omega)
      rw [show m - 1 - (m - 1) = 0 by omega, Nat.pow_zero, Nat.div_one] at hbm
      rw [if_neg (by omega), hbm, show 0 + 1 = 1 by rfl, Nat.pow_one]
      have e : 2 * ((c / 2 : Nat) : Int) + ((c % 2 : Nat) : Int) - 2 * f = (cntT lens m g : Int) := by omega
      rw [e, if_pos (by omega), Int.toNat_natCast, hx.1, show p + (m - 1) + 1 = p + m by omega]
    | succ d ih =>
      intro m hm h1 f hf
      obtain ⟨k, hk'⟩ : ∃ k, longest lens + 1 - m = k + 1 := ⟨longest lens - m, by omega⟩
      have hcn : cn lens m = (cnt lens m : Int) := by unfold cn; rw [if_neg (by omega)]
      have hbm := hb (m - 1) (by omega)
      rw [show n - 1 - (m - 1) = d + 1 by omega] at hbm
      have hge := fs_ge hk h1 d
      rw [show m + (d + 1) = n by omega] at hge
      have hfn := fs_nn hk m
      have hv : 2 * ((c / 2 ^ (d + 1 + 1) : Nat) : Int) + ((c / 2 ^ (d + 1) % 2 : Nat) : Int) = ((c / 2 ^ (d + 1) : Nat) : Int) := by
        have : c / 2 ^ (d + 1 + 1) = c / 2 ^ (d + 1) / 2 := by rw [Nat.pow_succ 2 (d + 1), ← Nat.div_div_eq_div_mul]
        rw [this]
        omega
      have hle : fs (cn lens) m + cn lens m ≤ ((c / 2 ^ (d + 1) : Nat) : Int) := by
        obtain ⟨z, hz⟩ := Int.eq_ofNat_of_zero_le (show 0 ≤ fs (cn lens) m + cn lens m by rw [hcn]; omega)
        rw [hz] at hge ⊢
        have e2 : ((2 ^ (d + 1) : Nat) : Int) = 2 ^ (d + 1) := by simp
        have : z * 2 ^ (d + 1) ≤ c := by
          have h3 : ((z * 2 ^ (d + 1) : Nat) : Int) = (z : Int) * 2 ^ (d + 1) := by simp
          omega
        have := (Nat.le_div_iff_mul_le (Nat.pow_pos (by decide))).2 this
        omega
      rw [hk']
      unfold sgo
      rw [if_neg (by omega), hbm, hv, if_neg (by rw [hcn] at hle; omega)]
      have := ih (m + 1) (by omega) (by omega) (2 * f + (cnt lens m : Int)) (by
        obtain ⟨x, rfl⟩ : ∃ x, m = x + 1 := ⟨m - 1, by omega⟩
        show 2 * (fs (cn lens) (x + 1) + cn lens (x + 1)) = _
        rw [hf, hcn])
      rw [show longest lens + 1 - (m + 1) = k by omega, show p + (m + 1 - 1) = p + (m - 1) + 1 by omega] at this
      exact this
  have := key (n - 1) 1 (by omega) (Nat.le_refl _) 0 rfl
  rw [show n - 1 + 1 = n by omega, Nat.div_eq_of_lt hlt, Nat.sub_self, Nat.add_zero, Nat.add_sub_cancel] at this
  exact this
section
variable {st : WS} {T : List UInt8} {lens : List Int}
/-- A sign that is written is read. -/
theorem cw_back (h : chk lens = 0) (hok : WOK 1 st) {g n : Nat} (hg : g < lens.length) (hn : lens.getD g 0 = (n : Int)) (h0 : 0 < n) (ha : Agree 1 (pos (cw lens st g)) (cw lens st g).1 T) :
    pos (cw lens st g) = pos st + n ∧ Agree 1 (pos st) st.1 T ∧ (pos st + n ≤ 8 * T.length → sym lens ⟨T.toArray⟩ (pos st) = .ok (g, pos st + n)) := by
  have e : cw lens st g = hw st (codeL lens g).toNat n n := by unfold cw; rw [hn, Int.toNat_natCast]
  rw [e] at ha ⊢
  rw [hw_pos hok] at ha ⊢
  obtain ⟨h1, h2⟩ := hw_back hok _ _ _ ha
  exact ⟨rfl, h1, fun hT => sym_code h hg hn h0 rfl h2 (by show _ ≤ 8 * T.toArray.size; simpa using hT)⟩
theorem cw_ok (hok : WOK 1 st) (g : Nat) : WOK 1 (cw lens st g) := hw_ok hok _ _ _
theorem cw_len (hk : Lok lens) (g : Nat) : (cw lens st g).1.length ≤ st.1.length + 15 := by
  have := hw_len st (codeL lens g).toNat (lens.getD g 0).toNat (lens.getD g 0).toNat
  have h2 := hk.nn g
  unfold cw
  omega
end
/-! ### A block with the fixed codes -/
theorem base3 : ∀ k, 3 ≤ baseL k
  | 0 => Nat.le_refl _
  | k + 1 => Nat.le_trans (base3 k) (Nat.le_add_right _ _)
/-- Every length and every distance has a sign. -/
theorem far_cover (v : Nat) (h1 : 1 ≤ v) : ∀ m, v < baseD m → ∃ k, k < m ∧ baseD k ≤ v ∧ v < baseD k + 2 ^ moreD k
  | 0, h => by have : baseD 0 = 1 := rfl; omega
  | m + 1, h => by
    by_cases hm : v < baseD m
    · obtain ⟨k, a, b, c⟩ := far_cover v h1 m hm
      exact ⟨k, by omega, b, c⟩
    · exact ⟨m, by omega, by omega, h⟩
theorem len_cover (v : Nat) (h1 : 3 ≤ v) : ∀ m, m ≤ 28 → v < baseL m → ∃ k, k < m ∧ firstL k ≤ v ∧ v < firstL k + 2 ^ moreL k
  | 0, _, h => by have : baseL 0 = 3 := rfl; omega
  | m + 1, hm28, h => by
    by_cases hm : v < baseL m
    · obtain ⟨k, a, b, c⟩ := len_cover v h1 m (by omega) hm
      exact ⟨k, by omega, b, c⟩
    · have e1 : firstL m = baseL m := by unfold firstL; rw [if_neg (by omega)]
      have e2 : moreL m = m / 4 - 1 := by unfold moreL; rw [if_neg (by omega)]
      exact ⟨m, by omega, by omega, by rw [e1, e2]; exact h⟩
theorem fixL_len : fixL.length = 288 := by decide +kernel
theorem fixD_len : fixD.length = 32 := by decide +kernel
theorem fixL_get : ∀ g, g < 288 → 7 ≤ fixL.getD g 0 ∧ fixL.getD g 0 ≤ 9 := by decide +kernel
theorem fixD_get : ∀ g, g < 32 → fixD.getD g 0 = 5 := by decide +kernel
theorem nearW {st : WS} {T : List UInt8} (hok : WOK 1 st) {g : Nat} (hg : g < 288) (ha : Agree 1 (pos (cw fixL st g)) (cw fixL st g).1 T) : ∃ n, 1 ≤ n ∧ pos (cw fixL st g) = pos st + n ∧ Agree 1 (pos st) st.1 T ∧ (pos st + n ≤ 8 * T.length → sym fixL ⟨T.toArray⟩ (pos st) = .ok (g, pos st + n)) := by
  have h := fixL_get g hg
  obtain ⟨n, hn⟩ := Int.eq_ofNat_of_zero_le (show 0 ≤ fixL.getD g 0 by omega)
  obtain ⟨a, b, c⟩ := cw_back chk_fixL hok (by rw [fixL_len]; exact hg) hn (by omega) ha
  exact ⟨n, by omega, a, b, c⟩
theorem farW {st : WS} {T : List UInt8} (hok : WOK 1 st) {g : Nat} (hg : g < 32) (ha : Agree 1 (pos (cw fixD st g)) (cw fixD st g).1 T) : pos (cw fixD st g) = pos st + 5 ∧ Agree 1 (pos st) st.1 T ∧ (pos st + 5 ≤ 8 * T.length → sym fixD ⟨T.toArray⟩ (pos st) = .ok (g, pos st + 5)) :=
  cw_back chk_fixD hok (by rw [fixD_len]; exact hg) (fixD_get g hg) (by omega) ha
/-- What has been written of a block: the head, signs that give these bytes. -/
structure EN (st : WS) (out : List UInt8) : Prop where
  ok : WOK 1 st
  dec : ∀ T : List UInt8, Agree 1 (pos st) st.1 T → pos st ≤ 8 * T.length → num ⟨T.toArray⟩ 0 1 = .ok (1, 1) ∧ num ⟨T.toArray⟩ 1 2 = .ok (1, 3) ∧ ∃ i, i ≤ pos st ∧
    ∀ most k, (out.length ≤ most → signsF ⟨T.toArray⟩ fixL fixD most (k + i) [] 3 = signsF ⟨T.toArray⟩ fixL fixD most k out (pos st)) ∧ (most < out.length → signsF ⟨T.toArray⟩ fixL fixD most (k + i) [] 3 = .error 5)
theorem EN.zero : EN (lw (lw ([], 0) 1 1) 1 2) [] := by
  have h0 : WOK 1 ([], 0) := WOK.zero 1 []
  have h1 := lw_ok h0 1 1
  refine ⟨lw_ok h1 1 2, fun T ha hT => ?_⟩
  obtain ⟨a1, a2⟩ := lw_back h1 (v := 1) (n := 2) (by decide) ha
  obtain ⟨b1, b2⟩ := lw_back h0 (v := 1) (n := 1) (by decide) a1
  rw [lw_pos h1] at hT ⊢
  rw [lw_pos h0] at hT a2 ⊢
  have p0 : pos (([], 0) : WS) = 0 := rfl
  rw [p0] at hT a2 b2 ⊢
  exact ⟨b2 (by omega), a2 (by omega), 0, by omega, fun most k => ⟨fun _ => rfl, fun h => by cases h⟩⟩
/-- One literal more. -/
theorem EN.lit {st : WS} {out : List UInt8} (h : EN st out) {b : UInt8} : EN (cw fixL st b.toNat) (out ++ [b]) := by
  have hb := b.toNat_lt
  refine ⟨cw_ok h.ok _, fun T ha hT => ?_⟩
  obtain ⟨n, n1, a1, a2, a3⟩ := nearW h.ok (by omega) ha
  rw [a1] at hT ⊢
  obtain ⟨c1, c2, i, c3, c4⟩ := h.dec T a2 (by omega)
  refine ⟨c1, c2, i + 1, by omega, fun most k => ?_⟩
  obtain ⟨d1, d2⟩ := c4 most (k + 1)
  have e1 : k + 1 + i = k + (i + 1) := by omega
  rw [e1] at d1 d2
  have step : signsF ⟨T.toArray⟩ fixL fixD most (k + 1) out (pos st) = if most ≤ out.length then .error 5 else signsF ⟨T.toArray⟩ fixL fixD most k (out ++ [b]) (pos st + n) := by
    conv => lhs; unfold signsF
    rw [a3 hT]
    dsimp only
    rw [if_neg (by omega), if_neg (by omega), UInt8.ofNat_toNat]
  have hl : (out ++ [b]).length = out.length + 1 := by simp
  rw [hl]
  refine ⟨fun hm => ?_, fun hm => ?_⟩
  · rw [d1 (by omega), step, if_neg (by omega)]
  · by_cases hm2 : most < out.length
    · exact d2 hm2
    · rw [d1 (by omega), step, if_pos (by omega)]
/-- One copy more. -/
theorem EN.cpy {st : WS} {out : List UInt8} (h : EN st out) {k x d y : Nat} (hk : k ≤ 28) (hx : x < 2 ^ moreL k) (hd : d ≤ 29) (hy : y < 2 ^ moreD d) (hlen : baseD d + y ≤ out.length) :
    EN (lw (cw fixD (lw (cw fixL st (257 + k)) x (moreL k)) d) y (moreD d)) (copy out (baseD d + y) (firstL k + x)) := by
  have ok1 := cw_ok (lens := fixL) h.ok (257 + k)
  have ok2 := lw_ok ok1 x (moreL k)
  have ok3 := cw_ok (lens := fixD) ok2 d
  refine ⟨lw_ok ok3 _ _, fun T ha hT => ?_⟩
  obtain ⟨y1, y2⟩ := lw_back ok3 hy ha
  rw [lw_pos ok3] at hT ⊢
  obtain ⟨f1, f2, f3⟩ := farW ok2 (by omega) y1
  rw [f1] at hT y2 ⊢
  obtain ⟨x1, x2⟩ := lw_back ok1 hx f2
  rw [lw_pos ok1] at hT y2 f3 ⊢
  obtain ⟨n, n1, a1, a2, a3⟩ := nearW h.ok (g := 257 + k) (by omega) x1
  rw [a1] at hT y2 f3 x2 ⊢
  obtain ⟨c1, c2, i, c3, c4⟩ := h.dec T a2 (by omega)
  refine ⟨c1, c2, i + 1, by omega, fun most z => ?_⟩
  obtain ⟨d1, d2⟩ := c4 most (z + 1)
  have e1 : z + 1 + i = z + (i + 1) := by omega
  rw [e1] at d1 d2
  have step : signsF ⟨T.toArray⟩ fixL fixD most (z + 1) out (pos st) = if most < out.length + (firstL k + x) then .error 5 else signsF ⟨T.toArray⟩ fixL fixD most z (copy out (baseD d + y) (firstL k + x)) (pos st + n + moreL k + 5 + moreD d) := by
    conv => lhs; unfold signsF
    rw [a3 (by omega)]
    dsimp only
    rw [if_neg (by omega), if_pos (by omega)]
    unfold copied
    rw [if_neg (by omega), show 257 + k - 257 = k by omega, x2 (by omega)]
    dsimp only
    rw [f3 (by omega)]
    dsimp only
    rw [if_neg (by omega), y2 (by omega)]
    dsimp only
    rw [Int.toNat_natCast, Int.toNat_natCast, if_neg (by omega)]
    by_cases hc : most < out.length + (firstL k + x)
    · rw [if_pos hc, if_pos hc]
    · rw [if_neg hc, if_neg hc]
  rw [copy_len]
  have h3 : 3 ≤ firstL k := by
    unfold firstL
    split
    · omega
    · exact base3 k
  refine ⟨fun hm => ?_, fun hm => ?_⟩
  · rw [d1 (by omega), step, if_neg (by omega)]
  · by_cases hm2 : most < out.length
    · exact d2 hm2
    · rw [d1 (by omega), step, if_pos (by omega)]
/-- The end: what All answers. -/
theorem EN.fin {st : WS} {out T : List UInt8} (h : EN st out) (hT : T = (cw fixL st 256).1) (hb : out.length ≤ 1048576) :
    allR ⟨T.toArray⟩ (out.length : Int) = (⟨out.toArray⟩, (T.length : Int), 0) ∧ (0 < out.length → allR ⟨T.toArray⟩ ((out.length : Int) - 1) = (⟨#[]⟩, 0, 5)) := by
  have ok1 := cw_ok (lens := fixL) h.ok 256
  have hsz : (⟨T.toArray⟩ : ByteArray).size = T.length := by show T.toArray.size = _; simp
  have hpos : pos (cw fixL st 256) ≤ 8 * T.length ∧ 8 * T.length < pos (cw fixL st 256) + 8 := by
    rw [hT]
    unfold pos
    split
    · omega
    · rename_i h2
      have h3 := ok1.lt
      have h4 : (cw fixL st 256).1.length ≠ 0 := fun e => (grow_ne ok1) (by unfold grow; rw [if_neg h2]; exact List.eq_nil_of_length_eq_zero e)
      omega
  have ha : Agree 1 (pos (cw fixL st 256)) (cw fixL st 256).1 T := by rw [hT]; exact Agree.refl _ _ _
  obtain ⟨n, n1, a1, a2, a3⟩ := nearW h.ok (g := 256) (by omega) ha
  rw [a1] at hpos
  obtain ⟨c1, c2, i, c3, c4⟩ := h.dec T a2 (by omega)
  have run : ∀ most, (out.length ≤ most → allQ ⟨T.toArray⟩ most (8 * (⟨T.toArray⟩ : ByteArray).size + 1) [] 0 = .ok (out, pos st + n)) ∧ (most < out.length → allQ ⟨T.toArray⟩ most (8 * (⟨T.toArray⟩ : ByteArray).size + 1) [] 0 = .error 5) := fun most => by
    obtain ⟨d1, d2⟩ := c4 most (8 * T.length + 1 - i - 1 + 1)
    rw [show 8 * T.length + 1 - i - 1 + 1 + i = 8 * T.length + 1 by omega] at d1 d2
    have blk : allQ ⟨T.toArray⟩ most (8 * (⟨T.toArray⟩ : ByteArray).size + 1) [] 0 = match signsF ⟨T.toArray⟩ fixL fixD most (8 * T.length + 1) [] 3 with
        | .error e => .error e
        | .ok (o, q) => .ok (o, q) := by
      rw [hsz]
      unfold allQ
      rw [c1]
      dsimp only [bnd]
      rw [c2]
      dsimp only
      unfold block
      rw [if_neg (by decide), if_neg (by decide), if_neg (by decide), hsz]
      cases signsF ⟨T.toArray⟩ fixL fixD most (8 * T.length + 1) [] 3 with
      | error e => rfl
      | ok z =>
        obtain ⟨o, q⟩ := z
        dsimp only
        rw [if_pos rfl]
    refine ⟨fun hm => ?_, fun hm => ?_⟩
    · rw [blk, d1 hm]
      conv => lhs; unfold signsF
      rw [a3 (by omega)]
      rfl
    · rw [blk, d2 hm]
  constructor
  · rw [allR_Q (by omega), (run _).1 (by omega)]
    dsimp only
    congr 2
    omega
  · intro h0
    rw [allR_Q (by omega), (run _).2 (by omega)]
end Inf
end Go.Proofs.Ytjkoafjnmkchdaa

/- Deflate: a block that is written sign by sign is read back, whatever its two codes; the signs of lengths and distances. Plain laws; conditions: a code's lengths. -/
namespace Go.Proofs.Ytjkoafjnmkchdaa
namespace Inf
open Sh Bit
set_option linter.unusedVariables false
set_option linter.unusedSimpArgs false
set_option maxRecDepth 4000
set_option maxHeartbeats 1000000
theorem symW {lens : List Int} (hc : chk lens = 0) {st : WS} {T : List UInt8} (hok : WOK 1 st) {g : Nat} (hg : g < lens.length) (h0 : 0 < lens.getD g 0) (ha : Agree 1 (pos (cw lens st g)) (cw lens st g).1 T) :
    ∃ n, 1 ≤ n ∧ pos (cw lens st g) = pos st + n ∧ Agree 1 (pos st) st.1 T ∧ (pos st + n ≤ 8 * T.length → sym lens ⟨T.toArray⟩ (pos st) = .ok (g, pos st + n)) := by
  obtain ⟨n, hn⟩ := Int.eq_ofNat_of_zero_le (show 0 ≤ lens.getD g 0 by omega)
  obtain ⟨a, b, c⟩ := cw_back hc hok hg hn (by omega) ha
  exact ⟨n, by omega, a, b, c⟩
/-- What has been written of a block: the head, signs that give these bytes. -/
structure Enc (H : List UInt8 → Prop) (near far : List Int) (p0 : Nat) (st : WS) (out : List UInt8) : Prop where
  ok : WOK 1 st
  dec : ∀ T : List UInt8, Agree 1 (pos st) st.1 T → pos st ≤ 8 * T.length → H T ∧ ∃ i, i ≤ pos st ∧
    ∀ most k, (out.length ≤ most → signsF ⟨T.toArray⟩ near far most (k + i) [] p0 = signsF ⟨T.toArray⟩ near far most k out (pos st)) ∧ (most < out.length → signsF ⟨T.toArray⟩ near far most (k + i) [] p0 = .error 5)
section
variable {H : List UInt8 → Prop} {near far : List Int} {p0 : Nat} {st : WS} {out : List UInt8}
theorem Enc.zero (ok : WOK 1 st) (h : ∀ T : List UInt8, Agree 1 (pos st) st.1 T → pos st ≤ 8 * T.length → H T) (hp : p0 = pos st) : Enc H near far p0 st [] :=
  ⟨ok, fun T ha hT => ⟨h T ha hT, 0, by omega, fun most k => ⟨fun _ => by rw [hp]; rfl, fun h => by cases h⟩⟩⟩
theorem Enc.lit (h : Enc H near far p0 st out) (hc : chk near = 0) {b : UInt8} (hg : b.toNat < near.length) (hb0 : 0 < near.getD b.toNat 0) : Enc H near far p0 (cw near st b.toNat) (out ++ [b]) := by
  have hb := b.toNat_lt
  refine ⟨cw_ok h.ok _, fun T ha hT => ?_⟩
  obtain ⟨n, n1, a1, a2, a3⟩ := symW hc h.ok hg hb0 ha
  rw [a1] at hT ⊢
  obtain ⟨c1, i, c3, c4⟩ := h.dec T a2 (by omega)
  refine ⟨c1, i + 1, by omega, fun most k => ?_⟩
  obtain ⟨d1, d2⟩ := c4 most (k + 1)
  have e1 : k + 1 + i = k + (i + 1) := by omega
  rw [e1] at d1 d2
  have step : signsF ⟨T.toArray⟩ near far most (k + 1) out (pos st) = if most ≤ out.length then .error 5 else signsF ⟨T.toArray⟩ near far most k (out ++ [b]) (pos st + n) := by
    conv => lhs; unfold signsF
    rw [a3 hT]
    dsimp only
    rw [if_neg (by omega), if_neg (by omega), UInt8.ofNat_toNat]
  have hl : (out ++ [b]).length = out.length + 1 := by simp
  rw [hl]
  refine ⟨fun hm => ?_, fun hm => ?_⟩
  · rw [d1 (by omega), step, if_neg (by omega)]
  · by_cases hm2 : most < out.length
    · exact d2 hm2
    · rw [d1 (by omega), step, if_pos (by omega)]
theorem Enc.cpy (h : Enc H near far p0 st out) (hc : chk near = 0) (hf : chk far = 0) {k x d y : Nat} (hk : k ≤ 28) (hx : x < 2 ^ moreL k) (hd : d ≤ 29) (hy : y < 2 ^ moreD d) (hlen : baseD d + y ≤ out.length)
    (hg : 257 + k < near.length) (hg0 : 0 < near.getD (257 + k) 0) (hdl : d < far.length) (hd0 : 0 < far.getD d 0) :
    Enc H near far p0 (lw (cw far (lw (cw near st (257 + k)) x (moreL k)) d) y (moreD d)) (copy out (baseD d + y) (firstL k + x)) := by
  have ok1 := cw_ok (lens := near) h.ok (257 + k)
  have ok2 := lw_ok ok1 x (moreL k)
  have ok3 := cw_ok (lens := far) ok2 d
  refine ⟨lw_ok ok3 _ _, fun T ha hT => ?_⟩
  obtain ⟨y1, y2⟩ := lw_back ok3 hy ha
  rw [lw_pos ok3] at hT ⊢
  obtain ⟨m, m1, f1, f2, f3⟩ := symW hf ok2 hdl hd0 y1
  rw [f1] at hT y2 ⊢
  obtain ⟨x1, x2⟩ := lw_back ok1 hx f2
  rw [lw_pos ok1] at hT y2 f3 ⊢
  obtain ⟨n, n1, a1, a2, a3⟩ := symW hc h.ok hg hg0 x1
  rw [a1] at hT y2 f3 x2 ⊢
  obtain ⟨c1, i, c3, c4⟩ := h.dec T a2 (by omega)
  refine ⟨c1, i + 1, by omega, fun most z => ?_⟩
  obtain ⟨d1, d2⟩ := c4 most (z + 1)
  have e1 : z + 1 + i = z + (i + 1) := by omega
  rw [e1] at d1 d2
  have step : signsF ⟨T.toArray⟩ near far most (z + 1) out (pos st) = if most < out.length + (firstL k + x) then .error 5 else signsF ⟨T.toArray⟩ near far most z (copy out (baseD d + y) (firstL k + x)) (pos st + n + moreL k + m + moreD d) := by
    conv => lhs; unfold signsF
    rw [a3 (by omega)]
    dsimp only
    rw [if_neg (by omega), if_pos (by omega)]
    unfold copied
    rw [if_neg (by omega), show 257 + k - 257 = k by omega, x2 (by omega)]
    dsimp only
    rw [f3 (by omega)]
    dsimp only
    rw [if_neg (by omega), y2 (by omega)]
    dsimp only
    rw [Int.toNat_natCast, Int.toNat_natCast, if_neg (by omega)]
    by_cases hc : most < out.length + (firstL k + x)
    · rw [if_pos hc, if_pos hc]
    · rw [if_neg hc, if_neg hc]
  rw [copy_len]
  have h3 : 3 ≤ firstL k := by
    unfold firstL
    split
    · omega
    · exact base3 k
  refine ⟨fun hm => ?_, fun hm => ?_⟩
  · rw [d1 (by omega), step, if_neg (by omega)]
  · by_cases hm2 : most < out.length
    · exact d2 hm2
    · rw [d1 (by omega), step, if_pos (by omega)]
/-- What a text must be that gives these bytes, and no more: read to its end, refused if the limit is less. -/
def Gives (T out : List UInt8) : Prop := ∀ most : Nat, (out.length ≤ most → ∃ q, allQ ⟨T.toArray⟩ most (8 * (⟨T.toArray⟩ : ByteArray).size + 1) [] 0 = .ok (out, q) ∧ (q + 7) / 8 = T.length) ∧
  (most < out.length → allQ ⟨T.toArray⟩ most (8 * (⟨T.toArray⟩ : ByteArray).size + 1) [] 0 = .error 5)
theorem pos_end {st : WS} (ok : WOK 1 st) (h : st.2 = 0 ∨ st.1 ≠ []) : pos st ≤ 8 * st.1.length ∧ 8 * st.1.length < pos st + 8 := by
  unfold pos
  split
  · omega
  · rename_i h2
    have h3 := ok.lt
    have h4 : st.1.length ≠ 0 := fun e => h.elim h2 fun hh => hh (List.eq_nil_of_length_eq_zero e)
    omega
/-- The end: what is read. -/
theorem Enc.fin {T : List UInt8} {kind : Int} (h : Enc H near far p0 st out) (hc : chk near = 0) (hg : 256 < near.length) (hg0 : 0 < near.getD 256 0) (hT : T = (cw near st 256).1)
    (hH : ∀ T : List UInt8, H T → num ⟨T.toArray⟩ 0 1 = .ok (1, 1) ∧ num ⟨T.toArray⟩ 1 2 = .ok (kind, 3) ∧ ∀ most, block ⟨T.toArray⟩ most kind [] 3 = signsF ⟨T.toArray⟩ near far most (8 * (⟨T.toArray⟩ : ByteArray).size + 1) [] p0) : Gives T out := by
  have ok1 := cw_ok (lens := near) h.ok 256
  have hsz : (⟨T.toArray⟩ : ByteArray).size = T.length := by show T.toArray.size = _; simp
  have hne : (cw near st 256).2 = 0 ∨ (cw near st 256).1 ≠ [] := by
    by_cases h2 : (cw near st 256).2 = 0
    · exact .inl h2
    · refine .inr fun e => (grow_ne ok1) ?_
      unfold grow
      rw [if_neg h2]
      exact e
  have hpos := pos_end ok1 hne
  rw [← hT] at hpos
  have ha : Agree 1 (pos (cw near st 256)) (cw near st 256).1 T := by rw [hT]; exact Agree.refl _ _ _
  obtain ⟨n, n1, a1, a2, a3⟩ := symW hc h.ok hg hg0 ha
  rw [a1] at hpos
  obtain ⟨hHT, i, c3, c4⟩ := h.dec T a2 (by omega)
  obtain ⟨c1, c2, hblk⟩ := hH T hHT
  intro most
  obtain ⟨d1, d2⟩ := c4 most (8 * T.length + 1 - i - 1 + 1)
  rw [show 8 * T.length + 1 - i - 1 + 1 + i = 8 * T.length + 1 by omega] at d1 d2
  have blk : allQ ⟨T.toArray⟩ most (8 * (⟨T.toArray⟩ : ByteArray).size + 1) [] 0 = match signsF ⟨T.toArray⟩ near far most (8 * T.length + 1) [] p0 with
      | .error e => .error e
      | .ok (o, q) => .ok (o, q) := by
    rw [hsz]
    unfold allQ
    rw [c1]
    dsimp only [bnd]
    rw [c2]
    dsimp only
    rw [hblk, hsz]
    cases signsF ⟨T.toArray⟩ near far most (8 * T.length + 1) [] p0 with
    | error e => rfl
    | ok z =>
      obtain ⟨o, q⟩ := z
      dsimp only
      rw [if_pos rfl]
  refine ⟨fun hm => ⟨pos st + n, ?_, by omega⟩, fun hm => ?_⟩
  · rw [blk, d1 hm]
    conv => lhs; unfold signsF
    rw [a3 (by omega)]
    rfl
  · rw [blk, d2 hm]
end
/-! ### The signs of lengths and distances -/
def kLt (v : Nat) : Nat → Nat
  | 0 => 0
  | m + 1 => if baseL (m + 1) ≤ v then m + 1 else kLt v m
/-- The sign of a length, less 257. -/
def kL (v : Nat) : Nat := if v = 258 then 28 else kLt v 27
def kDt (v : Nat) : Nat → Nat
  | 0 => 0
  | m + 1 => if baseD (m + 1) ≤ v then m + 1 else kDt v m
/-- The sign of a distance. -/
def kD (v : Nat) : Nat := kDt v 29
theorem kDt_spec (v : Nat) (hv : 1 ≤ v) : ∀ m, kDt v m ≤ m ∧ baseD (kDt v m) ≤ v ∧ (v < baseD (m + 1) → v < baseD (kDt v m + 1))
  | 0 => ⟨Nat.le_refl _, hv, fun h => h⟩
  | m + 1 => by
    obtain ⟨a, b, c⟩ := kDt_spec v hv m
    unfold kDt
    by_cases h : baseD (m + 1) ≤ v
    · rw [if_pos h]
      exact ⟨Nat.le_refl _, h, fun h => h⟩
    · rw [if_neg h]
      exact ⟨by omega, b, fun _ => c (by omega)⟩
theorem kLt_spec (v : Nat) (hv : 3 ≤ v) : ∀ m, kLt v m ≤ m ∧ baseL (kLt v m) ≤ v ∧ (v < baseL (m + 1) → v < baseL (kLt v m + 1))
  | 0 => ⟨Nat.le_refl _, hv, fun h => h⟩
  | m + 1 => by
    obtain ⟨a, b, c⟩ := kLt_spec v hv m
    unfold kLt
    by_cases h : baseL (m + 1) ≤ v
    · rw [if_pos h]
      exact ⟨Nat.le_refl _, h, fun h => h⟩
    · rw [if_neg h]
      exact ⟨by omega, b, fun _ => c (by omega)⟩
theorem baseD30 : baseD 30 = 32769 := by decide +kernel
theorem baseL28 : baseL 28 = 259 := by decide +kernel
theorem kD_spec {v : Nat} (h1 : 1 ≤ v) (h2 : v ≤ 32768) : kD v ≤ 29 ∧ baseD (kD v) ≤ v ∧ v < baseD (kD v) + 2 ^ moreD (kD v) := by
  obtain ⟨a, b, c⟩ := kDt_spec v h1 29
  exact ⟨a, b, c (by rw [baseD30]; omega)⟩
theorem kL_spec {v : Nat} (h1 : 3 ≤ v) (h2 : v ≤ 258) : kL v ≤ 28 ∧ firstL (kL v) ≤ v ∧ v < firstL (kL v) + 2 ^ moreL (kL v) ∧ (kL v = 28 ↔ v = 258) := by
  unfold kL
  by_cases h : v = 258
  · rw [if_pos h]
    subst h
    decide
  · rw [if_neg h]
    obtain ⟨a, b, c⟩ := kLt_spec v h1 27
    have e1 : firstL (kLt v 27) = baseL (kLt v 27) := by unfold firstL; rw [if_neg (by omega)]
    have e2 : moreL (kLt v 27) = kLt v 27 / 4 - 1 := by unfold moreL; rw [if_neg (by omega)]
    rw [e1, e2]
    exact ⟨by omega, b, c (by rw [baseL28]; omega), fun hh => by omega, fun hh => absurd hh h⟩
theorem baseD_mono : ∀ (k d : Nat), baseD k + d ≤ baseD (k + d)
  | k, 0 => Nat.le_refl _
  | k, d + 1 => by
    have := baseD_mono k d
    have h : 0 < 2 ^ ((k + d) / 2 - 1) := Nat.pow_pos (by decide)
    show baseD k + (d + 1) ≤ baseD (k + d) + 2 ^ ((k + d) / 2 - 1)
    omega
theorem baseL_mono : ∀ (k d : Nat), baseL k + d ≤ baseL (k + d)
  | k, 0 => Nat.le_refl _
  | k, d + 1 => by
    have := baseL_mono k d
    have h : 0 < 2 ^ ((k + d) / 4 - 1) := Nat.pow_pos (by decide)
    show baseL k + (d + 1) ≤ baseL (k + d) + 2 ^ ((k + d) / 4 - 1)
    omega
theorem kD_eq {v k : Nat} (h1 : 1 ≤ v) (h2 : v ≤ 32768) (hk : baseD k ≤ v) (hk2 : v < baseD (k + 1)) : k = kD v := by
  obtain ⟨a, b, c⟩ := kD_spec h1 h2
  have c : v < baseD (kD v + 1) := c
  rcases Nat.lt_trichotomy k (kD v) with h | h | h
  · have := baseD_mono (k + 1) (kD v - (k + 1))
    rw [show k + 1 + (kD v - (k + 1)) = kD v by omega] at this
    omega
  · exact h
  · have := baseD_mono (kD v + 1) (k - (kD v + 1))
    rw [show kD v + 1 + (k - (kD v + 1)) = k by omega] at this
    omega
theorem kL_eq {v k : Nat} (h1 : 3 ≤ v) (h2 : v < 258) (hk : baseL k ≤ v) (hk2 : v < baseL (k + 1)) : k = kL v := by
  obtain ⟨a, b, c⟩ := kLt_spec v h1 27
  have c := c (by rw [baseL28]; omega)
  unfold kL
  rw [if_neg (by omega)]
  rcases Nat.lt_trichotomy k (kLt v 27) with h | h | h
  · have := baseL_mono (k + 1) (kLt v 27 - (k + 1))
    rw [show k + 1 + (kLt v 27 - (k + 1)) = kLt v 27 by omega] at this
    omega
  · exact h
  · have := baseL_mono (kLt v 27 + 1) (k - (kLt v 27 + 1))
    rw [show kLt v 27 + 1 + (k - (kLt v 27 + 1)) = k by omega] at this
    omega
/-! ### Parts -/
/-- A part: a byte, or a size and how far back. -/
structure Prt where
  b : UInt8
  n : Nat
  f : Nat
def Prt.ok (p : Prt) : Prop := (p.n = 0 ∧ p.f = 0) ∨ (p.b = 0 ∧ 3 ≤ p.n ∧ p.n ≤ 258 ∧ 1 ≤ p.f ∧ p.f ≤ 32768)
def addP (out : List UInt8) (p : Prt) : List UInt8 := if p.n = 0 then out ++ [p.b] else copy out p.f p.n
/-- Each part is one, and does not reach back beyond what there is. -/
def Fit : List Prt → List UInt8 → Prop
  | [], _ => True
  | p :: r, out => p.ok ∧ p.f ≤ out.length ∧ Fit r (addP out p)
/-- What the writer writes of a part. -/
def wP (near far : List Int) (st : WS) (p : Prt) : WS := if p.n = 0 then cw near st p.b.toNat else
  lw (cw far (lw (cw near st (257 + kL p.n)) (p.n - firstL (kL p.n)) (moreL (kL p.n))) (kD p.f)) (p.f - baseD (kD p.f)) (moreD (kD p.f))
/-- The codes have the signs of a part. -/
def Has (near far : List Int) (p : Prt) : Prop := if p.n = 0 then p.b.toNat < near.length ∧ 0 < near.getD p.b.toNat 0 else
  (257 + kL p.n < near.length ∧ 0 < near.getD (257 + kL p.n) 0) ∧ kD p.f < far.length ∧ 0 < far.getD (kD p.f) 0
theorem Enc.part {H : List UInt8 → Prop} {near far : List Int} {p0 : Nat} {st : WS} {out : List UInt8} (h : Enc H near far p0 st out) (hc : chk near = 0) (hf : chk far = 0) {p : Prt} (hp : p.ok) (hl : p.f ≤ out.length) (hh : Has near far p) :
    Enc H near far p0 (wP near far st p) (addP out p) := by
  unfold wP addP Has at *
  by_cases hn : p.n = 0
  · rw [if_pos hn] at hh ⊢
    rw [if_pos hn]
    exact h.lit hc hh.1 hh.2
  · rw [if_neg hn] at hh ⊢
    rw [if_neg hn]
    rcases hp with hp | ⟨_, h3, h4, h5, h6⟩
    · exact absurd hp.1 hn
    obtain ⟨a1, a2, a3, _⟩ := kL_spec h3 h4
    obtain ⟨b1, b2, b3⟩ := kD_spec h5 h6
    have e1 : firstL (kL p.n) + (p.n - firstL (kL p.n)) = p.n := by omega
    have e2 : baseD (kD p.f) + (p.f - baseD (kD p.f)) = p.f := by omega
    have := h.cpy hc hf (k := kL p.n) (x := p.n - firstL (kL p.n)) (d := kD p.f) (y := p.f - baseD (kD p.f)) a1 (by omega) b1 (by omega) (by omega) hh.1.1 hh.1.2 hh.2.1 hh.2.2
    rw [e1, e2] at this
    exact this
end Inf
end Go.Proofs.Ytjkoafjnmkchdaa

/- Deflate: the greedy parse, plain: the longest copy, the nearest of these; its parts give the string back. No condition. -/
namespace Go.Proofs.Ytjkoafjnmkchdaa
namespace Inf
open Sh Bit
set_option linter.unusedVariables false
set_option linter.unusedSimpArgs false
set_option maxRecDepth 4000
set_option maxHeartbeats 1000000
/-- How far the bytes at two places are alike, from n on, k bytes at most. -/
def alikeK (s : List UInt8) (a b n : Nat) : Nat → Nat
  | 0 => n
  | k + 1 => if s.getD (a + n) 0 = s.getD (b + n) 0 then alikeK s a b (n + 1) k else n
theorem alikeK_spec (s : List UInt8) (a b : Nat) : ∀ (k n : Nat), n ≤ alikeK s a b n k ∧ alikeK s a b n k ≤ n + k ∧ (∀ j, n ≤ j → j < alikeK s a b n k → s.getD (a + j) 0 = s.getD (b + j) 0) ∧ (alikeK s a b n k = n + k ∨ s.getD (a + alikeK s a b n k) 0 ≠ s.getD (b + alikeK s a b n k) 0)
  | 0, n => ⟨Nat.le_refl _, Nat.le_refl _, fun j h1 h2 => by have : j < n := h2; omega, .inl rfl⟩
  | k + 1, n => by
    unfold alikeK
    by_cases h : s.getD (a + n) 0 = s.getD (b + n) 0
    · rw [if_pos h]
      obtain ⟨c1, c2, c3, c4⟩ := alikeK_spec s a b k (n + 1)
      refine ⟨by omega, by omega, fun j h1 h2 => ?_, c4.elim (fun c => .inl (by omega)) .inr⟩
      rcases Nat.lt_or_ge n j with h3 | h3
      · exact c3 j (by omega) h2
      · have : j = n := by omega
        subst this
        exact h
    · rw [if_neg h]
      exact ⟨Nat.le_refl _, by omega, fun j h1 h2 => by omega, .inr h⟩
/-- A step of the comparison. -/
theorem alikeK_step (s : List UInt8) (a b n k : Nat) : alikeK s a b n (k + 1) = if s.getD (a + n) 0 = s.getD (b + n) 0 then alikeK s a b (n + 1) k else n := rfl
/-- The most bytes of a copy at a place. -/
def mostK (s : List UInt8) (p : Nat) : Nat := min 258 (s.length - p)
/-- How long a copy from f bytes back may be. -/
def mlen (s : List UInt8) (p f : Nat) : Nat := alikeK s (p - f) p 0 (mostK s p)
/-- The longest copy from at most F bytes back, the nearest of these. -/
def bst (s : List UInt8) (p : Nat) : Nat → Nat × Nat
  | 0 => (0, 0)
  | F + 1 => if (bst s p F).1 < mlen s p (F + 1) then (mlen s p (F + 1), F + 1) else bst s p F
def farK (p : Nat) : Nat := min p 32768
theorem mlen_le (s : List UInt8) (p f : Nat) : mlen s p f ≤ mostK s p := by
  have := (alikeK_spec s (p - f) p (mostK s p) 0).2.1
  unfold mlen
  omega
theorem bst_le (s : List UInt8) (p : Nat) : ∀ F, (bst s p F).1 ≤ mostK s p
  | 0 => Nat.zero_le _
  | F + 1 => by
    unfold bst
    split
    · exact mlen_le s p _
    · exact bst_le s p F
theorem bst_max {s : List UInt8} {p F : Nat} (h : (bst s p F).1 = mostK s p) : ∀ d, bst s p (F + d) = bst s p F
  | 0 => rfl
  | d + 1 => by
    have := mlen_le s p (F + d + 1)
    show (if (bst s p (F + d)).1 < mlen s p (F + d + 1) then (mlen s p (F + d + 1), F + d + 1) else bst s p (F + d)) = _
    rw [bst_max h d, if_neg (by omega)]
theorem bst_at {s : List UInt8} {p : Nat} : ∀ F, (bst s p F).1 = 0 ∨ (1 ≤ (bst s p F).2 ∧ (bst s p F).2 ≤ F ∧ (bst s p F).1 = mlen s p (bst s p F).2)
  | 0 => .inl rfl
  | F + 1 => by
    unfold bst
    split
    · exact .inr ⟨by simp, by simp, rfl⟩
    · rcases bst_at F with h | ⟨h1, h2, h3⟩
      · exact .inl h
      · exact .inr ⟨h1, by omega, h3⟩
/-- Copies of less than three bytes count for none. -/
def thr (x : Nat × Nat) : Nat × Nat := if x.1 < 3 then (0, 0) else x
theorem thr_low {s : List UInt8} {p F : Nat} (h : mlen s p (F + 1) < 3) : thr (bst s p (F + 1)) = thr (bst s p F) := by
  conv => lhs; unfold bst
  split
  · rename_i hlt
    unfold thr
    rw [if_pos (by show mlen s p (F + 1) < 3; exact h), if_pos (by omega)]
  · rfl
theorem thr_high {s : List UInt8} {p F : Nat} (h : 3 ≤ mlen s p (F + 1)) : thr (bst s p (F + 1)) = if (thr (bst s p F)).1 < mlen s p (F + 1) then (mlen s p (F + 1), F + 1) else thr (bst s p F) := by
  conv => lhs; unfold bst
  by_cases hlt : (bst s p F).1 < mlen s p (F + 1)
  · rw [if_pos hlt]
    unfold thr
    rw [if_neg (by show ¬ mlen s p (F + 1) < 3; omega)]
    split
    · rw [if_pos (by show 0 < mlen s p (F + 1); omega)]
    · first | rw [if_pos hlt] | rfl
  · rw [if_neg hlt]
    unfold thr
    rw [if_neg (by omega), if_neg hlt]
/-- A copy of three bytes or more is where three bytes are alike. -/
theorem mlen3 {s : List UInt8} {p f : Nat} (h3 : p + 3 ≤ s.length) (hf : f ≤ p) : 3 ≤ mlen s p f ↔ ((s.drop (p - f)).take 3 = (s.drop p).take 3) := by
  have hm : 3 ≤ mostK s p := by unfold mostK; omega
  obtain ⟨_, c2, c3, c4⟩ := alikeK_spec s (p - f) p (mostK s p) 0
  have tk : ∀ q, q + 3 ≤ s.length → (s.drop q).take 3 = [s.getD q 0, s.getD (q + 1) 0, s.getD (q + 2) 0] := fun q hq => by
    have g : ∀ j, j < s.length → s.getD j 0 = s[j]! := fun j hj => by simp [List.getD_eq_getElem?_getD, hj]
    rw [List.drop_eq_getElem_cons (by omega), List.drop_eq_getElem_cons (by omega), List.drop_eq_getElem_cons (by omega)]
    simp only [List.getD_eq_getElem?_getD, List.getElem?_eq_getElem (show q < s.length by omega), List.getElem?_eq_getElem (show q + 1 < s.length by omega), List.getElem?_eq_getElem (show q + 2 < s.length by omega), Option.getD_some]
    rfl
  rw [tk p h3, tk (p - f) (by omega)]
  constructor
  · intro h
    have h : 3 ≤ alikeK s (p - f) p 0 (mostK s p) := h
    have e0 := c3 0 (by omega) (by omega)
    have e1 := c3 1 (by omega) (by omega)
    have e2 := c3 2 (by omega) (by omega)
    rw [Nat.add_zero, Nat.add_zero] at e0
    rw [e0, e1, e2]
  · intro h
    simp only [List.cons.injEq, and_true] at h
    obtain ⟨e0, e1, e2⟩ := h
    show 3 ≤ alikeK s (p - f) p 0 (mostK s p)
    rcases c4 with c4 | c4
    · omega
    · rcases Nat.lt_or_ge (alikeK s (p - f) p 0 (mostK s p)) 3 with h | h
      · have hh : alikeK s (p - f) p 0 (mostK s p) = 0 ∨ alikeK s (p - f) p 0 (mostK s p) = 1 ∨ alikeK s (p - f) p 0 (mostK s p) = 2 := by omega
        rcases hh with hh | hh | hh <;> rw [hh] at c4
        · exact absurd e0 c4
        · exact absurd e1 c4
        · exact absurd e2 c4
      · exact h
/-- The greedy parse, from a place on. -/
def partsF (s : List UInt8) : Nat → Nat → List Prt
  | 0, _ => []
  | k + 1, p => if s.length ≤ p then [] else if (bst s p (farK p)).1 < 3 then ⟨s.getD p 0, 0, 0⟩ :: partsF s k (p + 1)
    else ⟨0, (bst s p (farK p)).1, (bst s p (farK p)).2⟩ :: partsF s k (p + (bst s p (farK p)).1)
/-- What a copy within the string gives. -/
theorem copy_str {s : List UInt8} {p f : Nat} (hf1 : 1 ≤ f) (hf : f ≤ p) : ∀ n, n ≤ mlen s p f → p + n ≤ s.length → copy (s.take p) f n = s.take (p + n)
  | 0, _, _ => rfl
  | n + 1, h, hl => by
    show copy (s.take p) f n ++ [(copy (s.take p) f n).getD ((copy (s.take p) f n).length - f) 0] = _
    rw [copy_str hf1 hf n (by omega) (by omega)]
    have h1 : (s.take (p + n)).length = p + n := by rw [List.length_take]; omega
    rw [h1]
    have h2 : (s.take (p + n)).getD (p + n - f) 0 = s.getD (p + n - f) 0 := by
      rw [List.getD_eq_getElem?_getD, List.getElem?_take, if_pos (by omega), List.getD_eq_getElem?_getD]
    have h3 : s.getD (p + n - f) 0 = s.getD (p + n) 0 := by
      have := (alikeK_spec s (p - f) p (mostK s p) 0).2.2.1 n (by omega) (by unfold mlen at h; omega)
      rw [show p - f + n = p + n - f by omega] at this
      exact this
    rw [h2, h3, ← Nat.add_assoc, List.take_add_one, List.getElem?_eq_getElem (by omega), List.getD_eq_getElem?_getD, List.getElem?_eq_getElem (by omega)]
    rfl
/-- The parts fit, and give the string back. -/
theorem parts_fit (s : List UInt8) : ∀ (k p : Nat), s.length ≤ p + k → p ≤ s.length → Fit (partsF s k p) (s.take p) ∧ (partsF s k p).foldl addP (s.take p) = s
  | 0, p, h1, h2 => ⟨trivial, List.take_of_length_le (by omega)⟩
  | k + 1, p, h1, h2 => by
    unfold partsF
    by_cases c1 : s.length ≤ p
    · rw [if_pos c1]
      exact ⟨trivial, List.take_of_length_le c1⟩
    · rw [if_neg c1]
      by_cases c2 : (bst s p (farK p)).1 < 3
      · rw [if_pos c2]
        have e : addP (s.take p) ⟨s.getD p 0, 0, 0⟩ = s.take (p + 1) := by
          show s.take p ++ [s.getD p 0] = _
          rw [List.take_add_one, List.getElem?_eq_getElem (by omega), List.getD_eq_getElem?_getD, List.getElem?_eq_getElem (by omega)]
          rfl
        obtain ⟨a, b⟩ := parts_fit s k (p + 1) (by omega) (by omega)
        refine ⟨⟨.inl ⟨rfl, rfl⟩, Nat.zero_le _, by rw [e]; exact a⟩, ?_⟩
        rw [List.foldl_cons, e]
        exact b
      · rw [if_neg c2]
        obtain ⟨z1, z2, z3⟩ : 1 ≤ (bst s p (farK p)).2 ∧ (bst s p (farK p)).2 ≤ farK p ∧ (bst s p (farK p)).1 = mlen s p (bst s p (farK p)).2 := by
          rcases bst_at (s := s) (p := p) (farK p) with h | h
          · omega
          · exact h
        have z4 := bst_le s p (farK p)
        generalize bst s p (farK p) = x at c2 z1 z2 z3 z4
        unfold farK at z2
        unfold mostK at z4
        have e : addP (s.take p) ⟨0, x.1, x.2⟩ = s.take (p + x.1) := by
          unfold addP
          rw [if_neg (by show ¬ x.1 = 0; omega)]
          exact copy_str z1 (by omega) x.1 (by omega) (by omega)
        obtain ⟨a, b⟩ := parts_fit s k (p + x.1) (by omega) (by omega)
        refine ⟨⟨.inr ⟨rfl, by show 3 ≤ x.1; omega, by show x.1 ≤ 258; omega, z1, by show x.2 ≤ 32768; omega⟩, ?_, by rw [e]; exact a⟩, ?_⟩
        · show x.2 ≤ (s.take p).length
          rw [List.length_take]
          omega
        · rw [List.foldl_cons, e]
          exact b
/-- The greedy parse of a string. -/
def partsS (s : List UInt8) : List Prt := partsF s s.length 0
theorem partsS_fit (s : List UInt8) : Fit (partsS s) [] ∧ (partsS s).foldl addP [] = s := parts_fit s s.length 0 (by omega) (by omega)
/-- More rounds than bytes change nothing. -/
theorem partsF_more (s : List UInt8) : ∀ (k d p : Nat), s.length ≤ p + k → partsF s (k + d) p = partsF s k p
  | 0, 0, p, h => rfl
  | 0, d + 1, p, h => by
    show partsF s (0 + d + 1) p = []
    unfold partsF
    rw [if_pos (by omega)]
  | k + 1, d, p, h => by
    rw [show k + 1 + d = k + d + 1 by omega]
    unfold partsF
    split
    · rfl
    · rename_i c1
      split
      · rw [partsF_more s k d (p + 1) (by omega)]
      · rename_i c2
        rw [partsF_more s k d (p + (bst s p (farK p)).1) (by omega)]
theorem partsF_len (s : List UInt8) : ∀ (k p : Nat), (partsF s k p).length ≤ k
  | 0, p => Nat.le_refl _
  | k + 1, p => by
    unfold partsF
    split
    · simp
    · split
      · rw [List.length_cons]; exact Nat.succ_le_succ (partsF_len s k _)
      · rw [List.length_cons]; exact Nat.succ_le_succ (partsF_len s k _)
/-! ### Parts that may fit or not: what they give, or why not -/
/-- What parts give; the first error. -/
def unF : List Prt → List UInt8 → Except Int (List UInt8)
  | [], out => .ok out
  | p :: r, out => if ¬ ((p.n = 0 ∧ p.f = 0) ∨ (p.b = 0 ∧ 3 ≤ p.n ∧ p.n ≤ 258 ∧ 1 ≤ p.f ∧ p.f ≤ 32768)) then .error 1 else if out.length < p.f then .error 14 else if 1048576 < out.length + max p.n 1 then .error 5 else unF r (addP out p)
theorem addP_len (out : List UInt8) (p : Prt) : (addP out p).length = out.length + max p.n 1 := by
  unfold addP
  split
  · rename_i h; rw [List.length_append]; simp; omega
  · rename_i h; rw [copy_len]; omega
theorem foldl_len : ∀ (l : List Prt) (out : List UInt8), out.length ≤ (l.foldl addP out).length
  | [], out => Nat.le_refl _
  | p :: r, out => by
    have := foldl_len r (addP out p)
    rw [addP_len] at this
    rw [List.foldl_cons]
    omega
theorem un_fit : ∀ (l : List Prt) (out : List UInt8), Fit l out → (l.foldl addP out).length ≤ 1048576 → unF l out = .ok (l.foldl addP out)
  | [], out, _, _ => rfl
  | p :: r, out, ⟨h1, h2, h3⟩, hl => by
    unfold unF
    rw [List.foldl_cons] at hl ⊢
    have := foldl_len r (addP out p)
    rw [addP_len] at this
    rw [if_neg (fun h => h h1), if_neg (by omega), if_neg (by omega)]
    exact un_fit r (addP out p) h3 hl
end Inf
end Go.Proofs.Ytjkoafjnmkchdaa

/- The formulas of 1 functions of the program, written by program (gen.py); the kernel checks each. No condition. -/
namespace Go.Proofs.Ytjkoafjnmkchdaa
open Sh
set_option linter.unusedVariables false
set_option maxRecDepth 100000

def C49 (t1 : Option Addr) (vw2 : Option Addr) (sign3 : Int) (w : World) (R : Int → World → Prop) : Prop :=
  Calls Try.prog 49 #[.pointer t1, .pointer vw2, .int .i64 sign3] w fun e w' => ∃ r0 : Int, e = .returned (.int .i64 r0) ∧ R r0 w'
theorem C49.mono {t1 : Option Addr} {vw2 : Option Addr} {sign3 : Int} {w : World} {R R' : Int → World → Prop} (h : C49 t1 vw2 sign3 w R) (hr : ∀ r0 w', R r0 w' → R' r0 w') : C49 t1 vw2 sign3 w R' :=
  Calls.mono h fun _ _ ⟨r0, he, hR⟩ => ⟨r0, he, hr _ _ hR⟩

def S49L1 (t1 : Option Addr) (vw2 : Option Addr) (sign3 : Int) (R : Int → World → Prop) (I14 : Int → World → Prop) (s12 : Int) (vw13 : World) : Prop :=
  Br (decide (s12 ≥ 0)) (Nn t1 fun a15 =>
    Ld vw13 (a15.add 1) Slc.v fun (x16 : Slc) =>
    0 ≤ sign3 ∧ sign3 < (x16.len : Nat) ∧ Nn x16.p fun a17 =>
    Ld vw13 (a17.add ((sign3).toNat * 1)) (Value.int .i64) fun (x18 : Int) =>
    0 ≤ s12 ∧ C37 vw2 (iand .i64 (Int.fdiv x18 (2 ^ (min (s12).toNat 64))) 1) 1 vw13 fun r19 vw20 =>
      Br (r19 != 0) (R r19 vw20) (I14 (IntKind.i64.wrap (s12 - 1)) vw20)) (R 0 vw13)
/-- (*foliant/code.Table).Write -/
def S49 (t1 : Option Addr) (vw2 : Option Addr) (sign3 : Int) (w : World) (R : Int → World → Prop) : Prop :=
  Br t1.isNone (R 1 w) (Br vw2.isNone (R 1 w) (Br (decide (sign3 < 0)) (R 1 w) (Nn t1 fun a6 =>
        Ld w a6 Slc.v fun (x7 : Slc) =>
        Br (decide (sign3 ≥ ((x7.len : Nat) : Int))) (R 1 w) (Nn t1 fun a8 =>
          Ld w a8 Slc.v fun (x9 : Slc) =>
          0 ≤ sign3 ∧ sign3 < (x9.len : Nat) ∧ Nn x9.p fun a10 =>
          Ld w (a10.add ((sign3).toNat * 1)) (Value.int .i64) fun (x11 : Int) =>
          Br (x11 == 0) (R 13 w) (Lp (σ := Int) (S49L1 t1 vw2 sign3 R) (IntKind.i64.wrap (x11 - 1)) w)))))
def pl49 : Plan := (.seq (.reg .seq) (.seq (.seq (.reg .seq) (.cond (.seq (.reg .seq) .leaf) .leaf)) (.seq (.reg .seq) (.seq (.seq (.reg .seq) (.cond (.seq (.reg .seq) .leaf) .leaf)) (.seq (.seq (.reg .seq) (.block (.loop [(8, (.one (.int .i64)))] [0, 1, 2] (.seq (.seq (.reg .seq) (.cond .leaf .leaf)) (.seq (.block (.seq (.reg .seq) (.seq (.reg .seq) (.cond (.seq (.reg .seq) .leaf) .leaf)))) (.reg .seq)))))) (.seq (.reg .seq) .leaf))))))
set_option maxRecDepth 100000 in
theorem T49 (t1 : Option Addr) (vw2 : Option Addr) (sign3 : Int) (w : World) (R : Int → World → Prop) (h : S49 t1 vw2 sign3 w R) : C49 t1 vw2 sign3 w R := by
  have e : fnT Try.prog ⟨FF, MAY, (fun _ _ => False)⟩ pl49 Try.f49 [.pointer t1, .pointer vw2, .int .i64 sign3] w [(.one (.int .i64))] (fun s w => R s w) = S49 t1 vw2 sign3 w R := by kernel_rfl
  exact (fn_calls okF okM Try.func49 (by kernel_rfl) (by kernel_rfl) (e.mpr h)).mono fun _ _ ⟨s, he, hR⟩ => ⟨s, he, hR⟩

end Go.Proofs.Ytjkoafjnmkchdaa

/- The formulas of 3 functions of the program, written by program (gen.py); the kernel checks each. No condition. -/
namespace Go.Proofs.Ytjkoafjnmkchdaa
open Sh
set_option linter.unusedVariables false
set_option maxRecDepth 100000

def C80 (c1 : Option Addr) (w : World) (R : Int → World → Prop) : Prop :=
  Calls Try.prog 80 #[.pointer c1] w fun e w' => ∃ r0 : Int, e = .returned (.int .i64 r0) ∧ R r0 w'
theorem C80.mono {c1 : Option Addr} {w : World} {R R' : Int → World → Prop} (h : C80 c1 w R) (hr : ∀ r0 w', R r0 w' → R' r0 w') : C80 c1 w R' :=
  Calls.mono h fun _ _ ⟨r0, he, hR⟩ => ⟨r0, he, hr _ _ hR⟩
def C95 (x1 : Int) (w : World) (R : Bool → World → Prop) : Prop :=
  Calls Try.prog 95 #[.int .i64 x1] w fun e w' => ∃ r0 : Bool, e = .returned (.bool r0) ∧ R r0 w'
theorem C95.mono {x1 : Int} {w : World} {R R' : Bool → World → Prop} (h : C95 x1 w R) (hr : ∀ r0 w', R r0 w' → R' r0 w') : C95 x1 w R' :=
  Calls.mono h fun _ _ ⟨r0, he, hR⟩ => ⟨r0, he, hr _ _ hR⟩
def C92 (x1 : Int) (y2 : Int) (w : World) (R : Int → World → Prop) : Prop :=
  Calls Try.prog 92 #[.int .i64 x1, .int .i64 y2] w fun e w' => ∃ r0 : Int, e = .returned (.int .i64 r0) ∧ R r0 w'
theorem C92.mono {x1 : Int} {y2 : Int} {w : World} {R R' : Int → World → Prop} (h : C92 x1 y2 w R) (hr : ∀ r0 w', R r0 w' → R' r0 w') : C92 x1 y2 w R' :=
  Calls.mono h fun _ _ ⟨r0, he, hR⟩ => ⟨r0, he, hr _ _ hR⟩

/-- foliant/code.merged$1 -/
def S80 (c1 : Option Addr) (w : World) (R : Int → World → Prop) : Prop :=
  Nn c1 fun a2 =>
  Ld w a2 (Value.int .i64) fun (x3 : Int) =>
  R x3 w
def pl80 : Plan := (.seq (.reg .seq) (.seq (.reg .seq) .leaf))
set_option maxRecDepth 100000 in
theorem T80 (c1 : Option Addr) (w : World) (R : Int → World → Prop) (h : S80 c1 w R) : C80 c1 w R := by
  have e : fnT Try.prog ⟨FF, MAY, (fun _ _ => False)⟩ pl80 Try.f80 [.pointer c1] w [(.one (.int .i64))] (fun s w => R s w) = S80 c1 w R := by kernel_rfl
  exact (fn_calls okF okM Try.func80 (by kernel_rfl) (by kernel_rfl) (e.mpr h)).mono fun _ _ ⟨s, he, hR⟩ => ⟨s, he, hR⟩

/-- cmp.isNaN[int] -/
def S95 (x1 : Int) (w : World) (R : Bool → World → Prop) : Prop :=
  R (x1 != x1) w
def pl95 : Plan := (.seq (.reg .seq) (.seq (.reg .seq) .leaf))
set_option maxRecDepth 100000 in
theorem T95 (x1 : Int) (w : World) (R : Bool → World → Prop) (h : S95 x1 w R) : C95 x1 w R := by
  have e : fnT Try.prog ⟨FF, MAY, (fun _ _ => False)⟩ pl95 Try.f95 [.int .i64 x1] w [(.one .bool)] (fun s w => R s w) = S95 x1 w R := by kernel_rfl
  exact (fn_calls okF okM Try.func95 (by kernel_rfl) (by kernel_rfl) (e.mpr h)).mono fun _ _ ⟨s, he, hR⟩ => ⟨s, he, hR⟩

/-- cmp.Compare[int] -/
def S92 (x1 : Int) (y2 : Int) (w : World) (R : Int → World → Prop) : Prop :=
  C95 x1 w fun r3 vw4 =>
    C95 y2 vw4 fun r5 vw6 =>
      Br r3 (Br r5 (R 0 vw6) (R (-1) vw6)) (Br r5 (R 1 vw6) (Br (decide (x1 < y2)) (R (-1) vw6) (Br (decide (x1 > y2)) (R 1 vw6) (R 0 vw6))))
def pl92 : Plan := (.seq (.reg .seq) (.seq (.reg .seq) (.seq (.reg .seq) (.seq (.seq (.reg .seq) (.cond (.seq (.seq (.reg .seq) (.cond (.seq (.reg .seq) .leaf) .leaf)) (.seq (.reg .seq) .leaf)) .leaf)) (.seq (.seq (.reg .seq) (.cond (.seq (.reg .seq) .leaf) .leaf)) (.seq (.seq (.reg .seq) (.cond (.seq (.reg .seq) .leaf) .leaf)) (.seq (.seq (.reg .seq) (.cond (.seq (.reg .seq) .leaf) .leaf)) (.seq (.reg .seq) .leaf))))))))
set_option maxRecDepth 100000 in
theorem T92 (x1 : Int) (y2 : Int) (w : World) (R : Int → World → Prop) (h : S92 x1 y2 w R) : C92 x1 y2 w R := by
  have e : fnT Try.prog ⟨FF, MAY, (fun _ _ => False)⟩ pl92 Try.f92 [.int .i64 x1, .int .i64 y2] w [(.one (.int .i64))] (fun s w => R s w) = S92 x1 y2 w R := by kernel_rfl
  exact (fn_calls okF okM Try.func92 (by kernel_rfl) (by kernel_rfl) (e.mpr h)).mono fun _ _ ⟨s, he, hR⟩ => ⟨s, he, hR⟩

end Go.Proofs.Ytjkoafjnmkchdaa

/- The closure that compares two coins by their weights (it calls a function that it loads). Condition: the loaded function is the one known. -/
namespace Go.Proofs.Ytjkoafjnmkchdaa
open Sh
set_option linter.unusedVariables false
set_option maxRecDepth 100000
def wfn : Value := .func (.func 80) #[] #[]
def C91 (x : Option Addr) (y : Option Addr) (c : Addr) (w : World) (R : Int → World → Prop) : Prop :=
  Calls Try.prog 91 #[.pointer x, .pointer y, .pointer (some c)] w fun e w' => ∃ r0 : Int, e = .returned (.int .i64 r0) ∧ R r0 w'
theorem C91.mono {x : Option Addr} {y : Option Addr} {c : Addr} {w : World} {R R' : Int → World → Prop} (h : C91 x y c w R) (hr : ∀ r0 w', R r0 w' → R' r0 w') : C91 x y c w R' :=
  Calls.mono h fun _ _ ⟨r0, he, hR⟩ => ⟨r0, he, hr _ _ hR⟩
/-- A load whose value is known. -/
theorem take_load {P : Program} {F : Fx} {ops : Array Oper} {i : Nat} {r : Od} {J : List Nat} {S : World → Prop} {listed : Array Bool} {E : Env} {w : World} {K : Env → World → Prop} {o : Oper} {t : TypeId} {x : Operand} {a : Addr} {v : Value} {d : TypeDesc} {n : Nat}
    (ho : ops[i]? = some o) (hop : o.op = .load t x) (hg : o.guard = none) (hc : ((Region.free .any ops listed i && (Region.ready .any ops listed).contains i) && (!isLoad o.op || J.all fun j => anc ops j i)) = true) (hh : (hasAll E o.op && stillOp P o.op) = true)
    (hx : E.rho x = .pointer (some a)) (hd : P.underlying t = some d) (hn : szOf P t = some n) (ha : isAggD (some d) = false) (hraw : tyD d = .raw) (hS : ∀ w, S w → w.cell? a = some v)
    (k : heldT P F ops r [] J S (listed.setIfInBounds i true) (E.put o.dst v) w K) : heldT P F ops (.take i r) [] J S listed E w K := by
  unfold heldT
  rw [ho]
  have hc' : (([] : List Nat).isEmpty && (Region.free .any ops listed i && (Region.ready .any ops listed).contains i) && (!isLoad o.op || J.all fun j => anc ops j i)) = true := by
    rw [List.isEmpty_nil, Bool.true_and]; exact hc
  dsimp only
  rw [hc']
  dsimp only
  unfold gdT
  rw [hg]
  dsimp only
  rw [hh]
  dsimp only
  unfold opQ
  rw [hop]
  dsimp only
  unfold ldQ
  rw [hx]
  dsimp only
  rw [hd, hn]
  dsimp only
  rw [ha]
  dsimp only
  rw [hraw]
  exact ⟨v, hS, k⟩
def opsB : Option Code → Array Oper
  | some (.seq _ (.seq (.region _ ops _) _)) => ops
  | _ => #[]
def odCmp : Od := .take 0 (.take 3 (.take 1 (.take 4 (.eff 2 none (.eff 5 none (.eff 6 (some []) (.take 7 .done)))))))
def plCmp : Plan := .seq (.reg .seq) (.seq (.reg (.held [6] odCmp)) .leaf)
theorem phT_of {S : World → Prop} {w : World} {k : (World → Prop) → Prop} (h : S w) (hk : k S) : phT true w k := ⟨S, h, hk⟩
theorem T91 (x y : Option Addr) (c : Addr) (w : World) (R : Int → World → Prop) (hc : w.cell? c = some wfn)
    (h : C80 x w.drew fun r8 w1 => w1.cell? c = some wfn ∧ C80 y w1 fun r11 w2 => w2.cell? c = some wfn ∧ C92 r8 r11 w2 fun r w3 => R r w3) : C91 x y c w R := by
  have e : fnT Try.prog ⟨FF, MAY, (fun _ _ => False)⟩ plCmp Try.f91 [.pointer x, .pointer y, .pointer (some c)] w [(.one (.int .i64))] (fun s w => R s w) = phT true w.drew fun S => heldT Try.prog ⟨FF, MAY, (fun _ _ => False)⟩ (opsB Try.f91.body) odCmp [] [6] S (Array.replicate 8 false) [(5, .int .i64 0), (0, .pointer x), (1, .pointer y), (2, .pointer (some c))] w.drew fun E w => codeT Try.prog ⟨FF, MAY, (fun _ _ => False)⟩ .leaf .ret E w fun e E w => match e with
      | .ret => resT Try.prog Try.f91.results.toList E w fun vs => match Sg.get? [(.one (.int .i64))] vs with
        | some s => R s w
        | none => False
      | .normal => resT Try.prog Try.f91.results.toList E w fun vs => match Sg.get? [(.one (.int .i64))] vs with
        | some s => R s w
        | none => False
      | _ => False := by kernel_rfl
  refine (fn_calls okF okM Try.func91 (by kernel_rfl) (by kernel_rfl) (e.mpr (phT_of (S := fun w' => w'.cell? c = some wfn) hc ?_))).mono fun _ _ ⟨s, he, hR⟩ => ⟨s, he, hR⟩
  refine take_load (i := 0) (d := (Try.prog.underlying 136).get!) (n := 1) (t := 136) (x := .tmp 2) (o := (opsB Try.f91.body)[0]!) (by kernel_rfl) (by kernel_rfl) (by kernel_rfl) (by kernel_rfl) (by kernel_rfl) (a := c) (by kernel_rfl) (by kernel_rfl) (by kernel_rfl) (by kernel_rfl) (by kernel_rfl) (fun _ h => h) ?_
  refine take_load (i := 3) (d := (Try.prog.underlying 136).get!) (n := 1) (t := 136) (x := .tmp 2) (o := (opsB Try.f91.body)[3]!) (by kernel_rfl) (by kernel_rfl) (by kernel_rfl) (by kernel_rfl) (by kernel_rfl) (a := c) (by kernel_rfl) (by kernel_rfl) (by kernel_rfl) (by kernel_rfl) (by kernel_rfl) (fun _ h => h) ?_
  refine Eq.mpr ?_ h
  kernel_rfl
end Go.Proofs.Ytjkoafjnmkchdaa

/- The formulas of 14 functions of the program, written by program (gen.py); the kernel checks each. No condition. -/
namespace Go.Proofs.Ytjkoafjnmkchdaa
open Sh
set_option linter.unusedVariables false
set_option maxRecDepth 100000

def C93 (s1 : Slc) (n2 : Int) (w : World) (R : Slc → World → Prop) (PR : Value → World → Prop) : Prop :=
  Calls Try.prog 93 #[Slc.v s1, .int .i64 n2] w fun e w' => (∃ r0 : Slc, e = .returned (Slc.v r0) ∧ R r0 w') ∨ ∃ v, e = .panicked (onePanic v) ∧ PR v w'
theorem C93.mono {s1 : Slc} {n2 : Int} {w : World} {R R' : Slc → World → Prop} {PR PR' : Value → World → Prop} (h : C93 s1 n2 w R PR) (hr : ∀ r0 w', R r0 w' → R' r0 w') (hp : ∀ v w', PR v w' → PR' v w') : C93 s1 n2 w R' PR' :=
  Calls.mono h fun _ _ he => he.elim (fun ⟨r0, he, hR⟩ => .inl ⟨r0, he, hr _ _ hR⟩) fun ⟨v, he, hP⟩ => .inr ⟨v, he, hp _ _ hP⟩
def C89 (slices1 : Slc) (w : World) (R : Slc → World → Prop) (PR : Value → World → Prop) : Prop :=
  Calls Try.prog 89 #[Slc.v slices1] w fun e w' => (∃ r0 : Slc, e = .returned (Slc.v r0) ∧ R r0 w') ∨ ∃ v, e = .panicked (onePanic v) ∧ PR v w'
theorem C89.mono {slices1 : Slc} {w : World} {R R' : Slc → World → Prop} {PR PR' : Value → World → Prop} (h : C89 slices1 w R PR) (hr : ∀ r0 w', R r0 w' → R' r0 w') (hp : ∀ v w', PR v w' → PR' v w') : C89 slices1 w R' PR' :=
  Calls.mono h fun _ _ he => he.elim (fun ⟨r0, he, hR⟩ => .inl ⟨r0, he, hr _ _ hR⟩) fun ⟨v, he, hP⟩ => .inr ⟨v, he, hp _ _ hP⟩
def C96 (data1 : Slc) (a2 : Int) (b3 : Int) (cmp4 : Value) (w : World) (R : World → Prop) : Prop :=
  Calls Try.prog 96 #[Slc.v data1, .int .i64 a2, .int .i64 b3, cmp4] w fun e w' => e = .returned (.tuple #[]) ∧ R w'
theorem C96.mono {data1 : Slc} {a2 : Int} {b3 : Int} {cmp4 : Value} {w : World} {R R' : World → Prop} (h : C96 data1 a2 b3 cmp4 w R) (hr : ∀ w', R w' → R' w') : C96 data1 a2 b3 cmp4 w R' :=
  Calls.mono h fun _ _ ⟨he, hR⟩ => ⟨he, hr _ hR⟩
def C99 (data1 : Slc) (a2 : Int) (b3 : Int) (n4 : Int) (cmp5 : Value) (w : World) (R : World → Prop) : Prop :=
  Calls Try.prog 99 #[Slc.v data1, .int .i64 a2, .int .i64 b3, .int .i64 n4, cmp5] w fun e w' => e = .returned (.tuple #[]) ∧ R w'
theorem C99.mono {data1 : Slc} {a2 : Int} {b3 : Int} {n4 : Int} {cmp5 : Value} {w : World} {R R' : World → Prop} (h : C99 data1 a2 b3 n4 cmp5 w R) (hr : ∀ w', R w' → R' w') : C99 data1 a2 b3 n4 cmp5 w R' :=
  Calls.mono h fun _ _ ⟨he, hR⟩ => ⟨he, hr _ hR⟩
def C98 (data1 : Slc) (a2 : Int) (m3 : Int) (b4 : Int) (cmp5 : Value) (w : World) (R : World → Prop) : Prop :=
  Calls Try.prog 98 #[Slc.v data1, .int .i64 a2, .int .i64 m3, .int .i64 b4, cmp5] w fun e w' => e = .returned (.tuple #[]) ∧ R w'
theorem C98.mono {data1 : Slc} {a2 : Int} {m3 : Int} {b4 : Int} {cmp5 : Value} {w : World} {R R' : World → Prop} (h : C98 data1 a2 m3 b4 cmp5 w R) (hr : ∀ w', R w' → R' w') : C98 data1 a2 m3 b4 cmp5 w R' :=
  Calls.mono h fun _ _ ⟨he, hR⟩ => ⟨he, hr _ hR⟩
def C97 (data1 : Slc) (a2 : Int) (m3 : Int) (b4 : Int) (cmp5 : Value) (w : World) (R : World → Prop) : Prop :=
  Calls Try.prog 97 #[Slc.v data1, .int .i64 a2, .int .i64 m3, .int .i64 b4, cmp5] w fun e w' => e = .returned (.tuple #[]) ∧ R w'
theorem C97.mono {data1 : Slc} {a2 : Int} {m3 : Int} {b4 : Int} {cmp5 : Value} {w : World} {R R' : World → Prop} (h : C97 data1 a2 m3 b4 cmp5 w R) (hr : ∀ w', R w' → R' w') : C97 data1 a2 m3 b4 cmp5 w R' :=
  Calls.mono h fun _ _ ⟨he, hR⟩ => ⟨he, hr _ hR⟩
def C94 (data1 : Slc) (n2 : Int) (cmp3 : Value) (w : World) (R : World → Prop) : Prop :=
  Calls Try.prog 94 #[Slc.v data1, .int .i64 n2, cmp3] w fun e w' => e = .returned (.tuple #[]) ∧ R w'
theorem C94.mono {data1 : Slc} {n2 : Int} {cmp3 : Value} {w : World} {R R' : World → Prop} (h : C94 data1 n2 cmp3 w R) (hr : ∀ w', R w' → R' w') : C94 data1 n2 cmp3 w R' :=
  Calls.mono h fun _ _ ⟨he, hR⟩ => ⟨he, hr _ hR⟩
def C90 (x1 : Slc) (cmp2 : Value) (w : World) (R : World → Prop) : Prop :=
  Calls Try.prog 90 #[Slc.v x1, cmp2] w fun e w' => e = .returned (.tuple #[]) ∧ R w'
theorem C90.mono {x1 : Slc} {cmp2 : Value} {w : World} {R R' : World → Prop} (h : C90 x1 cmp2 w R) (hr : ∀ w', R w' → R' w') : C90 x1 cmp2 w R' :=
  Calls.mono h fun _ _ ⟨he, hR⟩ => ⟨he, hr _ hR⟩
def C79 (a1 : Slc) (b2 : Slc) (weight3 : Value) (w : World) (R : Slc → World → Prop) (PR : Value → World → Prop) : Prop :=
  Calls Try.prog 79 #[Slc.v a1, Slc.v b2, weight3] w fun e w' => (∃ r0 : Slc, e = .returned (Slc.v r0) ∧ R r0 w') ∨ ∃ v, e = .panicked (onePanic v) ∧ PR v w'
theorem C79.mono {a1 : Slc} {b2 : Slc} {weight3 : Value} {w : World} {R R' : Slc → World → Prop} {PR PR' : Value → World → Prop} (h : C79 a1 b2 weight3 w R PR) (hr : ∀ r0 w', R r0 w' → R' r0 w') (hp : ∀ v w', PR v w' → PR' v w') : C79 a1 b2 weight3 w R' PR' :=
  Calls.mono h fun _ _ he => he.elim (fun ⟨r0, he, hR⟩ => .inl ⟨r0, he, hr _ _ hR⟩) fun ⟨v, he, hP⟩ => .inr ⟨v, he, hp _ _ hP⟩
def C66 (a1 : Slc) (b2 : Slc) (w : World) (R : Slc → World → Prop) (PR : Value → World → Prop) : Prop :=
  Calls Try.prog 66 #[Slc.v a1, Slc.v b2] w fun e w' => (∃ r0 : Slc, e = .returned (Slc.v r0) ∧ R r0 w') ∨ ∃ v, e = .panicked (onePanic v) ∧ PR v w'
theorem C66.mono {a1 : Slc} {b2 : Slc} {w : World} {R R' : Slc → World → Prop} {PR PR' : Value → World → Prop} (h : C66 a1 b2 w R PR) (hr : ∀ r0 w', R r0 w' → R' r0 w') (hp : ∀ v w', PR v w' → PR' v w') : C66 a1 b2 w R' PR' :=
  Calls.mono h fun _ _ he => he.elim (fun ⟨r0, he, hR⟩ => .inl ⟨r0, he, hr _ _ hR⟩) fun ⟨v, he, hP⟩ => .inr ⟨v, he, hp _ _ hP⟩
def C67 (l1 : Slc) (w : World) (R : Slc → World → Prop) : Prop :=
  Calls Try.prog 67 #[Slc.v l1] w fun e w' => ∃ r0 : Slc, e = .returned (Slc.v r0) ∧ R r0 w'
theorem C67.mono {l1 : Slc} {w : World} {R R' : Slc → World → Prop} (h : C67 l1 w R) (hr : ∀ r0 w', R r0 w' → R' r0 w') : C67 l1 w R' :=
  Calls.mono h fun _ _ ⟨r0, he, hR⟩ => ⟨r0, he, hr _ _ hR⟩
def C69 (sign1 : Int) (c2 : Addr) (w : World) (R : World → Prop) : Prop :=
  Calls Try.prog 69 #[.int .i64 sign1, .pointer (some c2)] w fun e w' => e = .returned (.tuple #[]) ∧ R w'
theorem C69.mono {sign1 : Int} {c2 : Addr} {w : World} {R R' : World → Prop} (h : C69 sign1 c2 w R) (hr : ∀ w', R w' → R' w') : C69 sign1 c2 w R' :=
  Calls.mono h fun _ _ ⟨he, hR⟩ => ⟨he, hr _ hR⟩
def C68 (c1 : Option Addr) (tell2 : Value) (w : World) (R : World → Prop) : Prop :=
  Calls Try.prog 68 #[.pointer c1, tell2] w fun e w' => e = .returned (.tuple #[]) ∧ R w'
theorem C68.mono {c1 : Option Addr} {tell2 : Value} {w : World} {R R' : World → Prop} (h : C68 c1 tell2 w R) (hr : ∀ w', R w' → R' w') : C68 c1 tell2 w R' :=
  Calls.mono h fun _ _ ⟨he, hR⟩ => ⟨he, hr _ hR⟩
def C45 (counts1 : Slc) (most2 : Int) (w : World) (R : Slc → Int → World → Prop) (PR : Value → World → Prop) : Prop :=
  Calls Try.prog 45 #[Slc.v counts1, .int .i64 most2] w fun e w' => (∃ r0 : Slc, ∃ r1 : Int, e = .returned (.tuple #[Slc.v r0, .int .i64 r1]) ∧ R r0 r1 w') ∨ ∃ v, e = .panicked (onePanic v) ∧ PR v w'
theorem C45.mono {counts1 : Slc} {most2 : Int} {w : World} {R R' : Slc → Int → World → Prop} {PR PR' : Value → World → Prop} (h : C45 counts1 most2 w R PR) (hr : ∀ r0 r1 w', R r0 r1 w' → R' r0 r1 w') (hp : ∀ v w', PR v w' → PR' v w') : C45 counts1 most2 w R' PR' :=
  Calls.mono h fun _ _ he => he.elim (fun ⟨r0, r1, he, hR⟩ => .inl ⟨r0, r1, he, hr _ _ _ hR⟩) fun ⟨v, he, hP⟩ => .inr ⟨v, he, hp _ _ hP⟩

/-- slices.Grow[[]*foliant/code.coin,*foliant/code.coin] -/
def S93 (s1 : Slc) (n2 : Int) (w : World) (R : Slc → World → Prop) (PR : Value → World → Prop) : Prop :=
  Br (decide (n2 < 0)) (PR (.iface 9 (.string ((⟨#[99, 97, 110, 110, 111, 116, 32, 98, 101, 32, 110, 101, 103, 97, 116, 105, 118, 101]⟩ : ByteArray)))) w) (Lt (IntKind.i64.wrap (n2 - (IntKind.i64.wrap (((s1.cap : Nat) : Int) - ((s1.len : Nat) : Int))))) fun (x3 : Int) =>
    Br (decide (x3 > 0)) (0 ≤ ((s1.cap : Nat) : Int) ∧ ((s1.cap : Nat) : Int) ≤ ((s1.cap : Nat) : Int) ∧ Rn Try.prog (Builtin.append_ #[116, 3] 116 #[Slc.v (s1.cut 1 0 ((((s1.cap : Nat) : Int)).toNat) s1.cap), .int .i64 x3]) w Slc.v fun (x4 : Slc) vw5 =>
      0 ≤ ((s1.len : Nat) : Int) ∧ ((s1.len : Nat) : Int) ≤ ((x4.cap : Nat) : Int) ∧ R (x4.cut 1 0 ((((s1.len : Nat) : Int)).toNat) x4.cap) vw5) (R s1 w))
def pl93 : Plan := (.seq (.reg .seq) (.seq (.seq (.reg .seq) (.cond (.reg .seq) .leaf)) (.seq (.seq (.reg .seq) (.seq (.reg .seq) (.cond (.reg .seq) .leaf))) (.seq (.reg .seq) .leaf))))
set_option maxRecDepth 100000 in
theorem T93 (s1 : Slc) (n2 : Int) (w : World) (R : Slc → World → Prop) (PR : Value → World → Prop) (h : S93 s1 n2 w R PR) : C93 s1 n2 w R PR := by
  have e : fnT Try.prog ⟨FF, MAY, PR⟩ pl93 Try.f93 [Slc.v s1, .int .i64 n2] w [(.one .slc)] (fun s w => R s w) = S93 s1 n2 w R PR := by kernel_rfl
  exact (fn_callsP okF okM Try.func93 (by kernel_rfl) (by kernel_rfl) (e.mpr h)).mono fun _ _ he => he.elim (fun ⟨s, he, hR⟩ => .inl ⟨s, he, hR⟩) .inr

def S89L1 (slices1 : Slc) (R : Slc → World → Prop) (I16 : (Slc × Int) → World → Prop) (s14 : Slc × Int) (vw15 : World) : Prop :=
  Br (decide (s14.2 < ((slices1.len : Nat) : Int))) (0 ≤ s14.2 ∧ s14.2 < (slices1.len : Nat) ∧ Nn slices1.p fun a17 =>
    Ld vw15 (a17.add ((s14.2).toNat * 1)) Slc.v fun (x18 : Slc) =>
    Rn Try.prog (Builtin.append_ #[116, 116] 116 #[Slc.v s14.1, Slc.v x18]) vw15 Slc.v fun (x19 : Slc) vw20 =>
    I16 (x19, IntKind.i64.wrap (s14.2 + 1)) vw20) (R s14.1 vw15)
def S89L2 (slices1 : Slc) (R : Slc → World → Prop) (PR : Value → World → Prop) (I9 : (Int × Int) → World → Prop) (s7 : Int × Int) (vw8 : World) : Prop :=
  Br (decide (s7.2 < ((slices1.len : Nat) : Int))) (0 ≤ s7.2 ∧ s7.2 < (slices1.len : Nat) ∧ Nn slices1.p fun a10 =>
    Ld vw8 (a10.add ((s7.2).toNat * 1)) Slc.v fun (x11 : Slc) =>
    Br (decide ((IntKind.i64.wrap (s7.1 + ((x11.len : Nat) : Int))) < 0)) (PR (.iface 9 (.string ((⟨#[108, 101, 110, 32, 111, 117, 116, 32, 111, 102, 32, 114, 97, 110, 103, 101]⟩ : ByteArray)))) vw8) (I9 (IntKind.i64.wrap (s7.1 + ((x11.len : Nat) : Int)), IntKind.i64.wrap (s7.2 + 1)) vw8)) (C93 (⟨none, 0, 0⟩ : Slc) s7.1 vw8 (fun r12 vw13 =>
      Lp (σ := Slc × Int) (S89L1 slices1 R) (r12, 0) vw13) PR)
/-- slices.Concat[[]*foliant/code.coin,*foliant/code.coin] -/
def S89 (slices1 : Slc) (w : World) (R : Slc → World → Prop) (PR : Value → World → Prop) : Prop :=
  Lp (σ := Int × Int) (S89L2 slices1 R PR) (0, 0) w
def pl89 : Plan := (.seq (.reg .seq) (.seq (.reg .seq) (.seq (.seq (.reg .seq) (.block (.loop [(3, (.one (.int .i64))), (11, (.one (.int .i64)))] [0, 9, 10] (.seq (.reg .seq) (.seq (.cond .leaf .leaf) (.seq (.block (.seq (.reg .seq) (.seq (.reg .seq) (.seq (.reg .seq) (.cond (.reg .seq) .leaf))))) (.reg .seq))))))) (.seq (.reg .seq) (.seq (.seq (.reg .seq) (.block (.loop [(6, (.one .slc)), (27, (.one (.int .i64)))] [25, 26] (.seq (.reg .seq) (.seq (.cond .leaf .leaf) (.seq (.block (.seq (.reg .seq) (.reg .seq))) (.reg .seq))))))) (.seq (.reg .seq) .leaf))))))
set_option maxRecDepth 100000 in
theorem T89 (slices1 : Slc) (w : World) (R : Slc → World → Prop) (PR : Value → World → Prop) (h : S89 slices1 w R PR) : C89 slices1 w R PR := by
  have e : fnT Try.prog ⟨FF, MAY, PR⟩ pl89 Try.f89 [Slc.v slices1] w [(.one .slc)] (fun s w => R s w) = S89 slices1 w R PR := by kernel_rfl
  exact (fn_callsP okF okM Try.func89 (by kernel_rfl) (by kernel_rfl) (e.mpr h)).mono fun _ _ he => he.elim (fun ⟨s, he, hR⟩ => .inl ⟨s, he, hR⟩) .inr

def S96_F91L1 (data1 : Slc) (a2 : Int) (c5 : Addr) (s6 : Int) (I8 : Int → World → Prop) (I11 : Int → World → Prop) (s9 : Int) (vw10 : World) : Prop :=
  Br (decide (s9 > a2)) (0 ≤ s9 ∧ s9 < (data1.len : Nat) ∧ Nn data1.p fun a18 =>
    Ld vw10.drew (a18.add ((s9).toNat * 1)) Value.pointer fun (x19 : Option Addr) =>
    0 ≤ (IntKind.i64.wrap (s9 - 1)) ∧ (IntKind.i64.wrap (s9 - 1)) < (data1.len : Nat) ∧ Nn data1.p fun a20 =>
    Ld vw10.drew (a20.add ((IntKind.i64.wrap (s9 - 1)).toNat * 1)) Value.pointer fun (x21 : Option Addr) =>
    C91 x19 x21 c5 vw10.drew fun r22 vw23 =>
      Br (decide (r22 < 0)) (∃ vS24 : World → Prop, vS24 vw23.drew ∧ 0 ≤ (IntKind.i64.wrap (s9 - 1)) ∧ (IntKind.i64.wrap (s9 - 1)) < (data1.len : Nat) ∧ Nn data1.p fun a25 =>
        LdS vS24 (a25.add ((IntKind.i64.wrap (s9 - 1)).toNat * 1)) Value.pointer fun (x26 : Option Addr) =>
        0 ≤ s9 ∧ s9 < (data1.len : Nat) ∧ Nn data1.p fun a27 =>
        LdS vS24 (a27.add ((s9).toNat * 1)) Value.pointer fun (x28 : Option Addr) =>
        0 ≤ s9 ∧ s9 < (data1.len : Nat) ∧ Nn data1.p fun a29 =>
        St vw23.drew (a29.add ((s9).toNat * 1)) (.pointer x26) fun vw30 =>
        0 ≤ (IntKind.i64.wrap (s9 - 1)) ∧ (IntKind.i64.wrap (s9 - 1)) < (data1.len : Nat) ∧ Nn data1.p fun a31 =>
        St vw30 (a31.add ((IntKind.i64.wrap (s9 - 1)).toNat * 1)) (.pointer x28) fun vw32 =>
        I11 (IntKind.i64.wrap (s9 - 1)) vw32) (I8 (IntKind.i64.wrap (s6 + 1)) vw23)) (I8 (IntKind.i64.wrap (s6 + 1)) vw10.drew)
def S96_F91L2 (data1 : Slc) (a2 : Int) (b3 : Int) (c5 : Addr) (R : World → Prop) (I8 : Int → World → Prop) (s6 : Int) (vw7 : World) : Prop :=
  Br (decide (s6 < b3)) (Lp (σ := Int) (S96_F91L1 data1 a2 c5 s6 I8) s6 vw7) (R vw7)
/-- slices.insertionSortCmpFunc[*foliant/code.coin] -/
def S96_F91 (data1 : Slc) (a2 : Int) (b3 : Int) (c5 : Addr) (w : World) (R : World → Prop) : Prop :=
  Lp (σ := Int) (S96_F91L2 data1 a2 b3 c5 R) (IntKind.i64.wrap (a2 + 1)) w
def pl96_F91 : Plan := (.seq (.reg .seq) (.block (.loop [(8, (.one (.int .i64)))] [0, 1, 2, 3] (.seq (.seq (.reg .seq) (.cond .leaf .leaf)) (.seq (.block (.seq (.reg .seq) (.block (.loop [(9, (.one (.int .i64)))] [0, 1, 2, 3, 8] (.seq (.seq (.reg (.tail 14)) (.cond .leaf .leaf)) (.seq (.block (.reg (.held [15] (.take 0 (.take 1 (.take 2 (.take 3 (.take 4 (.take 5 (.take 6 (.take 7 (.take 8 (.take 9 (.take 10 (.take 11 (.take 12 (.take 13 (.take 14 (.eff 15 (some [17]) (.take 16 (.eff 17 (some []) .done))))))))))))))))))))) (.reg .seq))))))) (.reg .seq))))))
set_option maxRecDepth 100000 in
theorem T96_F91 (data1 : Slc) (a2 : Int) (b3 : Int) (c5 : Addr) (w : World) (R : World → Prop) (h : S96_F91 data1 a2 b3 c5 w R) : C96 data1 a2 b3 (.func (.func 91) #[] #[.pointer (some c5)]) w R := by
  have e : fnT Try.prog ⟨FF, MAY, (fun _ _ => False)⟩ pl96_F91 Try.f96 [Slc.v data1, .int .i64 a2, .int .i64 b3, .func (.func 91) #[] #[.pointer (some c5)]] w [] (fun _ w => R w) = S96_F91 data1 a2 b3 c5 w R := by kernel_rfl
  exact (fn_calls okF okM Try.func96 (by kernel_rfl) (by kernel_rfl) (e.mpr h)).mono fun _ _ ⟨_, he, hR⟩ => ⟨he, hR⟩

def S99L1 (data1 : Slc) (a2 : Int) (b3 : Int) (n4 : Int) (R : World → Prop) (I8 : Int → World → Prop) (s6 : Int) (vw7 : World) : Prop :=
  Br (decide (s6 < n4)) (∃ vS9 : World → Prop, vS9 vw7.drew ∧ 0 ≤ (IntKind.i64.wrap (b3 + s6)) ∧ (IntKind.i64.wrap (b3 + s6)) < (data1.len : Nat) ∧ Nn data1.p fun a10 =>
    LdS vS9 (a10.add ((IntKind.i64.wrap (b3 + s6)).toNat * 1)) Value.pointer fun (x11 : Option Addr) =>
    0 ≤ (IntKind.i64.wrap (a2 + s6)) ∧ (IntKind.i64.wrap (a2 + s6)) < (data1.len : Nat) ∧ Nn data1.p fun a12 =>
    LdS vS9 (a12.add ((IntKind.i64.wrap (a2 + s6)).toNat * 1)) Value.pointer fun (x13 : Option Addr) =>
    0 ≤ (IntKind.i64.wrap (a2 + s6)) ∧ (IntKind.i64.wrap (a2 + s6)) < (data1.len : Nat) ∧ Nn data1.p fun a14 =>
    St vw7.drew (a14.add ((IntKind.i64.wrap (a2 + s6)).toNat * 1)) (.pointer x11) fun vw15 =>
    0 ≤ (IntKind.i64.wrap (b3 + s6)) ∧ (IntKind.i64.wrap (b3 + s6)) < (data1.len : Nat) ∧ Nn data1.p fun a16 =>
    St vw15 (a16.add ((IntKind.i64.wrap (b3 + s6)).toNat * 1)) (.pointer x13) fun vw17 =>
    I8 (IntKind.i64.wrap (s6 + 1)) vw17) (R vw7)
/-- slices.swapRangeCmpFunc[*foliant/code.coin] -/
def S99 (data1 : Slc) (a2 : Int) (b3 : Int) (n4 : Int) (cmp5 : Value) (w : World) (R : World → Prop) : Prop :=
  Lp (σ := Int) (S99L1 data1 a2 b3 n4 R) 0 w
def pl99 : Plan := (.seq (.reg .seq) (.block (.loop [(10, (.one (.int .i64)))] [0, 1, 2, 3] (.seq (.seq (.reg .seq) (.cond .leaf .leaf)) (.seq (.block (.reg (.held [21] (.take 0 (.take 1 (.take 2 (.take 3 (.take 4 (.take 5 (.take 6 (.take 7 (.take 8 (.take 9 (.take 10 (.take 11 (.take 12 (.take 13 (.take 14 (.take 15 (.take 16 (.take 17 (.take 18 (.take 19 (.take 20 (.eff 21 (some [23]) (.take 22 (.eff 23 (some []) .done))))))))))))))))))))))))))) (.reg .seq))))))
set_option maxRecDepth 100000 in
theorem T99 (data1 : Slc) (a2 : Int) (b3 : Int) (n4 : Int) (cmp5 : Value) (w : World) (R : World → Prop) (h : S99 data1 a2 b3 n4 cmp5 w R) : C99 data1 a2 b3 n4 cmp5 w R := by
  have e : fnT Try.prog ⟨FF, MAY, (fun _ _ => False)⟩ pl99 Try.f99 [Slc.v data1, .int .i64 a2, .int .i64 b3, .int .i64 n4, cmp5] w [] (fun _ w => R w) = S99 data1 a2 b3 n4 cmp5 w R := by kernel_rfl
  exact (fn_calls okF okM Try.func99 (by kernel_rfl) (by kernel_rfl) (e.mpr h)).mono fun _ _ ⟨_, he, hR⟩ => ⟨he, hR⟩

def S98L1 (data1 : Slc) (m3 : Int) (cmp5 : Value) (R : World → Prop) (I13 : (Int × Int) → World → Prop) (s11 : Int × Int) (vw12 : World) : Prop :=
  Br (s11.1 != s11.2) (Br (decide (s11.1 > s11.2)) (C99 data1 (IntKind.i64.wrap (m3 - s11.1)) m3 s11.2 cmp5 vw12 fun vw14 =>
        I13 (IntKind.i64.wrap (s11.1 - s11.2), s11.2) vw14) (C99 data1 (IntKind.i64.wrap (m3 - s11.1)) (IntKind.i64.wrap ((IntKind.i64.wrap (m3 + s11.2)) - s11.1)) s11.1 cmp5 vw12 fun vw15 =>
        I13 (s11.1, IntKind.i64.wrap (s11.2 - s11.1)) vw15)) (C99 data1 (IntKind.i64.wrap (m3 - s11.1)) m3 s11.1 cmp5 vw12 fun vw16 =>
      R vw16)
/-- slices.rotateCmpFunc[*foliant/code.coin] -/
def S98 (data1 : Slc) (a2 : Int) (m3 : Int) (b4 : Int) (cmp5 : Value) (w : World) (R : World → Prop) : Prop :=
  Lp (σ := Int × Int) (S98L1 data1 m3 cmp5 R) (IntKind.i64.wrap (m3 - a2), IntKind.i64.wrap (b4 - m3)) w
def pl98 : Plan := (.seq (.reg .seq) (.seq (.reg .seq) (.seq (.block (.loop [(10, (.one (.int .i64))), (11, (.one (.int .i64)))] [0, 2, 4] (.seq (.seq (.reg .seq) (.cond .leaf .leaf)) (.block (.seq (.reg .seq) (.cond (.seq (.reg .seq) (.reg .seq)) (.seq (.reg .seq) (.reg .seq)))))))) (.reg .seq))))
set_option maxRecDepth 100000 in
theorem T98 (data1 : Slc) (a2 : Int) (m3 : Int) (b4 : Int) (cmp5 : Value) (w : World) (R : World → Prop) (h : S98 data1 a2 m3 b4 cmp5 w R) : C98 data1 a2 m3 b4 cmp5 w R := by
  have e : fnT Try.prog ⟨FF, MAY, (fun _ _ => False)⟩ pl98 Try.f98 [Slc.v data1, .int .i64 a2, .int .i64 m3, .int .i64 b4, cmp5] w [] (fun _ w => R w) = S98 data1 a2 m3 b4 cmp5 w R := by kernel_rfl
  exact (fn_calls okF okM Try.func98 (by kernel_rfl) (by kernel_rfl) (e.mpr h)).mono fun _ _ ⟨_, he, hR⟩ => ⟨he, hR⟩

def S97_F91L1 (data1 : Slc) (s39 : Int × Int) (R : World → Prop) (I51 : Int → World → Prop) (s49 : Int) (vw50 : World) : Prop :=
  Br (decide (s49 < (IntKind.i64.wrap (s39.1 - 1)))) (∃ vS52 : World → Prop, vS52 vw50.drew ∧ 0 ≤ (IntKind.i64.wrap (s49 + 1)) ∧ (IntKind.i64.wrap (s49 + 1)) < (data1.len : Nat) ∧ Nn data1.p fun a53 =>
    LdS vS52 (a53.add ((IntKind.i64.wrap (s49 + 1)).toNat * 1)) Value.pointer fun (x54 : Option Addr) =>
    0 ≤ s49 ∧ s49 < (data1.len : Nat) ∧ Nn data1.p fun a55 =>
    LdS vS52 (a55.add ((s49).toNat * 1)) Value.pointer fun (x56 : Option Addr) =>
    0 ≤ s49 ∧ s49 < (data1.len : Nat) ∧ Nn data1.p fun a57 =>
    St vw50.drew (a57.add ((s49).toNat * 1)) (.pointer x54) fun vw58 =>
    0 ≤ (IntKind.i64.wrap (s49 + 1)) ∧ (IntKind.i64.wrap (s49 + 1)) < (data1.len : Nat) ∧ Nn data1.p fun a59 =>
    St vw58 (a59.add ((IntKind.i64.wrap (s49 + 1)).toNat * 1)) (.pointer x56) fun vw60 =>
    I51 (IntKind.i64.wrap (s49 + 1)) vw60) (R vw50)
def S97_F91L2 (data1 : Slc) (a2 : Int) (c6 : Addr) (R : World → Prop) (I41 : (Int × Int) → World → Prop) (s39 : Int × Int) (vw40 : World) : Prop :=
  Br (decide (s39.1 < s39.2)) (0 ≤ (IntKind.i64.wrap (Int.fdiv (IntKind.u64.wrap (IntKind.i64.wrap (s39.1 + s39.2))) (2 ^ 1))) ∧ (IntKind.i64.wrap (Int.fdiv (IntKind.u64.wrap (IntKind.i64.wrap (s39.1 + s39.2))) (2 ^ 1))) < (data1.len : Nat) ∧ Nn data1.p fun a42 =>
    Ld vw40.drew (a42.add ((IntKind.i64.wrap (Int.fdiv (IntKind.u64.wrap (IntKind.i64.wrap (s39.1 + s39.2))) (2 ^ 1))).toNat * 1)) Value.pointer fun (x43 : Option Addr) =>
    0 ≤ a2 ∧ a2 < (data1.len : Nat) ∧ Nn data1.p fun a44 =>
    Ld vw40.drew (a44.add ((a2).toNat * 1)) Value.pointer fun (x45 : Option Addr) =>
    C91 x43 x45 c6 vw40.drew fun r46 vw47 =>
      Br (decide (r46 < 0)) (Lt (IntKind.i64.wrap ((IntKind.i64.wrap (Int.fdiv (IntKind.u64.wrap (IntKind.i64.wrap (s39.1 + s39.2))) (2 ^ 1))) + 1)) fun (x48 : Int) =>
        I41 (x48, s39.2) vw47) (I41 (s39.1, IntKind.i64.wrap (Int.fdiv (IntKind.u64.wrap (IntKind.i64.wrap (s39.1 + s39.2))) (2 ^ 1))) vw47)) (Lp (σ := Int) (S97_F91L1 data1 s39 R) a2 vw40)
def S97_F91L3 (data1 : Slc) (s93 : Int × Int) (R : World → Prop) (I105 : Int → World → Prop) (s103 : Int) (vw104 : World) : Prop :=
  Br (decide (s103 > s93.1)) (∃ vS106 : World → Prop, vS106 vw104.drew ∧ 0 ≤ (IntKind.i64.wrap (s103 - 1)) ∧ (IntKind.i64.wrap (s103 - 1)) < (data1.len : Nat) ∧ Nn data1.p fun a107 =>
    LdS vS106 (a107.add ((IntKind.i64.wrap (s103 - 1)).toNat * 1)) Value.pointer fun (x108 : Option Addr) =>
    0 ≤ s103 ∧ s103 < (data1.len : Nat) ∧ Nn data1.p fun a109 =>
    LdS vS106 (a109.add ((s103).toNat * 1)) Value.pointer fun (x110 : Option Addr) =>
    0 ≤ s103 ∧ s103 < (data1.len : Nat) ∧ Nn data1.p fun a111 =>
    St vw104.drew (a111.add ((s103).toNat * 1)) (.pointer x108) fun vw112 =>
    0 ≤ (IntKind.i64.wrap (s103 - 1)) ∧ (IntKind.i64.wrap (s103 - 1)) < (data1.len : Nat) ∧ Nn data1.p fun a113 =>
    St vw112 (a113.add ((IntKind.i64.wrap (s103 - 1)).toNat * 1)) (.pointer x110) fun vw114 =>
    I105 (IntKind.i64.wrap (s103 - 1)) vw114) (R vw104)
def S97_F91L4 (data1 : Slc) (m3 : Int) (c6 : Addr) (R : World → Prop) (I95 : (Int × Int) → World → Prop) (s93 : Int × Int) (vw94 : World) : Prop :=
  Br (decide (s93.1 < s93.2)) (0 ≤ m3 ∧ m3 < (data1.len : Nat) ∧ Nn data1.p fun a96 =>
    Ld vw94.drew (a96.add ((m3).toNat * 1)) Value.pointer fun (x97 : Option Addr) =>
    0 ≤ (IntKind.i64.wrap (Int.fdiv (IntKind.u64.wrap (IntKind.i64.wrap (s93.1 + s93.2))) (2 ^ 1))) ∧ (IntKind.i64.wrap (Int.fdiv (IntKind.u64.wrap (IntKind.i64.wrap (s93.1 + s93.2))) (2 ^ 1))) < (data1.len : Nat) ∧ Nn data1.p fun a98 =>
    Ld vw94.drew (a98.add ((IntKind.i64.wrap (Int.fdiv (IntKind.u64.wrap (IntKind.i64.wrap (s93.1 + s93.2))) (2 ^ 1))).toNat * 1)) Value.pointer fun (x99 : Option Addr) =>
    C91 x97 x99 c6 vw94.drew fun r100 vw101 =>
      Br (!(decide (r100 < 0))) (Lt (IntKind.i64.wrap ((IntKind.i64.wrap (Int.fdiv (IntKind.u64.wrap (IntKind.i64.wrap (s93.1 + s93.2))) (2 ^ 1))) + 1)) fun (x102 : Int) =>
        I95 (x102, s93.2) vw101) (I95 (s93.1, IntKind.i64.wrap (Int.fdiv (IntKind.u64.wrap (IntKind.i64.wrap (s93.1 + s93.2))) (2 ^ 1))) vw101)) (Lp (σ := Int) (S97_F91L3 data1 s93 R) m3 vw94)
def S97_F91J1 (data1 : Slc) (a2 : Int) (b4 : Int) (c6 : Addr) (x115 : Int) (s129 : Int × Int) (R : World → Prop) (s144 : Unit) (vw145 : World) : Prop :=
  Lt (decide ((IntKind.i64.wrap (Int.fdiv (IntKind.u64.wrap (IntKind.i64.wrap (a2 + b4))) (2 ^ 1))) < (IntKind.i64.wrap (x115 - s129.1)))) fun (x146 : Bool) =>
  Br x146 (Br (decide ((IntKind.i64.wrap (x115 - s129.1)) < b4)) (C97 data1 (IntKind.i64.wrap (Int.fdiv (IntKind.u64.wrap (IntKind.i64.wrap (a2 + b4))) (2 ^ 1))) (IntKind.i64.wrap (x115 - s129.1)) b4 (.func (.func 91) #[] #[.pointer (some c6)]) vw145 fun vw147 =>
        R vw147) (R vw145)) (R vw145)
def S97_F91J2 (data1 : Slc) (a2 : Int) (b4 : Int) (c6 : Addr) (x115 : Int) (s129 : Int × Int) (R : World → Prop) (s140 : Unit) (vw141 : World) : Prop :=
  Join (S97_F91J1 data1 a2 b4 c6 x115 s129 R) fun (vJ148 : Unit → World → Prop) =>
    Br (decide (a2 < s129.1)) (Lt (decide (s129.1 < (IntKind.i64.wrap (Int.fdiv (IntKind.u64.wrap (IntKind.i64.wrap (a2 + b4))) (2 ^ 1))))) fun (x149 : Bool) =>
      Br x149 (C97 data1 a2 s129.1 (IntKind.i64.wrap (Int.fdiv (IntKind.u64.wrap (IntKind.i64.wrap (a2 + b4))) (2 ^ 1))) (.func (.func 91) #[] #[.pointer (some c6)]) vw141 fun vw150 =>
          vJ148 () vw150) (vJ148 () vw141)) (vJ148 () vw141)
def S97_F91L5 (data1 : Slc) (a2 : Int) (m3 : Int) (b4 : Int) (c6 : Addr) (x115 : Int) (R : World → Prop) (I131 : (Int × Int) → World → Prop) (s129 : Int × Int) (vw130 : World) : Prop :=
  Br (decide (s129.1 < s129.2)) (Lt (IntKind.i64.wrap (Int.fdiv (IntKind.u64.wrap (IntKind.i64.wrap (s129.1 + s129.2))) (2 ^ 1))) fun (x132 : Int) =>
    0 ≤ (IntKind.i64.wrap ((IntKind.i64.wrap (x115 - 1)) - x132)) ∧ (IntKind.i64.wrap ((IntKind.i64.wrap (x115 - 1)) - x132)) < (data1.len : Nat) ∧ Nn data1.p fun a133 =>
    Ld vw130.drew (a133.add ((IntKind.i64.wrap ((IntKind.i64.wrap (x115 - 1)) - x132)).toNat * 1)) Value.pointer fun (x134 : Option Addr) =>
    0 ≤ x132 ∧ x132 < (data1.len : Nat) ∧ Nn data1.p fun a135 =>
    Ld vw130.drew (a135.add ((x132).toNat * 1)) Value.pointer fun (x136 : Option Addr) =>
    C91 x134 x136 c6 vw130.drew fun r137 vw138 =>
      Br (!(decide (r137 < 0))) (I131 (IntKind.i64.wrap (x132 + 1), s129.2) vw138) (I131 (s129.1, x132) vw138)) (Join (S97_F91J2 data1 a2 b4 c6 x115 s129 R) fun (vJ151 : Unit → World → Prop) =>
      Br (decide (s129.1 < m3)) (Br (decide (m3 < (IntKind.i64.wrap (x115 - s129.1)))) (C98 data1 s129.1 m3 (IntKind.i64.wrap (x115 - s129.1)) (.func (.func 91) #[] #[.pointer (some c6)]) vw130 fun vw152 =>
            vJ151 () vw152) (vJ151 () vw130)) (vJ151 () vw130))
def S97_F91J3 (data1 : Slc) (a2 : Int) (m3 : Int) (b4 : Int) (c6 : Addr) (x115 : Int) (R : World → Prop) (s117 : Int × Int) (vw118 : World) : Prop :=
  Lp (σ := Int × Int) (S97_F91L5 data1 a2 m3 b4 c6 x115 R) (s117.1, s117.2) vw118
/-- slices.symMergeCmpFunc[*foliant/code.coin] -/
def S97_F91 (data1 : Slc) (a2 : Int) (m3 : Int) (b4 : Int) (c6 : Addr) (w : World) (R : World → Prop) : Prop :=
  Br ((IntKind.i64.wrap (m3 - a2)) == 1) (Lp (σ := Int × Int) (S97_F91L2 data1 a2 c6 R) (m3, b4) w) (Br ((IntKind.i64.wrap (b4 - m3)) == 1) (Lp (σ := Int × Int) (S97_F91L4 data1 m3 c6 R) (a2, m3) w) (Lt (IntKind.i64.wrap ((IntKind.i64.wrap (Int.fdiv (IntKind.u64.wrap (IntKind.i64.wrap (a2 + b4))) (2 ^ 1))) + m3)) fun (x115 : Int) =>
      Join (S97_F91J3 data1 a2 m3 b4 c6 x115 R) fun (vJ153 : (Int × Int) → World → Prop) =>
        Lt (decide (m3 > (IntKind.i64.wrap (Int.fdiv (IntKind.u64.wrap (IntKind.i64.wrap (a2 + b4))) (2 ^ 1))))) fun (x154 : Bool) =>
        Br x154 (vJ153 (IntKind.i64.wrap (x115 - b4), IntKind.i64.wrap (Int.fdiv (IntKind.u64.wrap (IntKind.i64.wrap (a2 + b4))) (2 ^ 1))) w) (vJ153 (a2, m3) w)))
def pl97_F91 : Plan := (.seq (.seq (.reg .seq) (.cond (.seq (.reg .seq) (.seq (.reg .seq) (.seq (.block (.loop [(10, (.one (.int .i64))), (11, (.one (.int .i64)))] [0, 1, 4] (.seq (.seq (.reg .seq) (.cond .leaf .leaf)) (.block (.seq (.reg .seq) (.seq (.reg (.tail 9)) (.cond (.reg .seq) (.reg .seq)))))))) (.seq (.seq (.reg .seq) (.block (.loop [(13, (.one (.int .i64)))] [0, 10] (.seq (.seq (.reg .seq) (.cond .leaf .leaf)) (.seq (.block (.reg (.held [15] (.take 0 (.take 1 (.take 2 (.take 3 (.take 4 (.take 5 (.take 6 (.take 7 (.take 8 (.take 9 (.take 10 (.take 11 (.take 12 (.take 13 (.take 14 (.eff 15 (some [17]) (.take 16 (.eff 17 (some []) .done))))))))))))))))))))) (.reg .seq)))))) .leaf)))) .leaf)) (.seq (.seq (.reg .seq) (.cond (.seq (.reg .seq) (.seq (.reg .seq) (.seq (.block (.loop [(14, (.one (.int .i64))), (15, (.one (.int .i64)))] [0, 2, 4] (.seq (.seq (.reg .seq) (.cond .leaf .leaf)) (.block (.seq (.reg .seq) (.seq (.reg (.tail 9)) (.cond (.reg .seq) (.reg .seq)))))))) (.seq (.seq (.reg .seq) (.block (.loop [(17, (.one (.int .i64)))] [0, 14] (.seq (.seq (.reg .seq) (.cond .leaf .leaf)) (.seq (.block (.reg (.held [15] (.take 0 (.take 1 (.take 2 (.take 3 (.take 4 (.take 5 (.take 6 (.take 7 (.take 8 (.take 9 (.take 10 (.take 11 (.take 12 (.take 13 (.take 14 (.eff 15 (some [17]) (.take 16 (.eff 17 (some []) .done))))))))))))))))))))) (.reg .seq)))))) .leaf)))) .leaf)) (.seq (.reg .seq) (.seq (.reg .seq) (.seq (.reg .seq) (.join [(20, (.one (.int .i64))), (21, (.one (.int .i64)))] [0, 1, 2, 3, 4, 18, 19] (.seq (.reg .seq) (.cond (.seq (.reg .seq) (.reg .seq)) (.seq (.reg .seq) (.reg .seq)))) (.seq (.reg .seq) (.seq (.block (.loop [(20, (.one (.int .i64))), (21, (.one (.int .i64)))] [0, 1, 2, 3, 4, 18, 19, 22] (.seq (.seq (.reg .seq) (.cond .leaf .leaf)) (.block (.seq (.reg .seq) (.seq (.reg (.tail 11)) (.cond (.reg .seq) (.reg .seq)))))))) (.seq (.reg .seq) (.join [] [0, 1, 3, 4, 18, 20, 24] (.seq (.reg .seq) (.cond (.reg .seq) .leaf)) (.join [] [0, 3, 4, 18, 24] (.seq (.reg .seq) (.cond (.reg .seq) .leaf)) (.seq (.reg .seq) (.cond (.reg .seq) .leaf)))))))))))))
set_option maxRecDepth 100000 in
theorem T97_F91 (data1 : Slc) (a2 : Int) (m3 : Int) (b4 : Int) (c6 : Addr) (w : World) (R : World → Prop) (h : S97_F91 data1 a2 m3 b4 c6 w R) : C97 data1 a2 m3 b4 (.func (.func 91) #[] #[.pointer (some c6)]) w R := by
  have e : fnT Try.prog ⟨FF, MAY, (fun _ _ => False)⟩ pl97_F91 Try.f97 [Slc.v data1, .int .i64 a2, .int .i64 m3, .int .i64 b4, .func (.func 91) #[] #[.pointer (some c6)]] w [] (fun _ w => R w) = S97_F91 data1 a2 m3 b4 c6 w R := by kernel_rfl
  exact (fn_calls okF okM Try.func97 (by kernel_rfl) (by kernel_rfl) (e.mpr h)).mono fun _ _ ⟨_, he, hR⟩ => ⟨he, hR⟩

def S94_F91L1 (data1 : Slc) (n2 : Int) (c4 : Addr) (s14 : Int) (I16 : Int → World → Prop) (I23 : (Int × Int) → World → Prop) (s21 : Int × Int) (vw22 : World) : Prop :=
  Br (decide (s21.2 ≤ n2)) (C97 data1 s21.1 (IntKind.i64.wrap (s21.1 + s14)) s21.2 (.func (.func 91) #[] #[.pointer (some c4)]) vw22 fun vw24 =>
      I23 (s21.2, IntKind.i64.wrap (s21.2 + (IntKind.i64.wrap (2 * s14)))) vw24) (Br (decide ((IntKind.i64.wrap (s21.1 + s14)) < n2)) (C97 data1 s21.1 (IntKind.i64.wrap (s21.1 + s14)) n2 (.func (.func 91) #[] #[.pointer (some c4)]) vw22 fun vw25 =>
        I16 (IntKind.i64.wrap (s14 * 2)) vw25) (I16 (IntKind.i64.wrap (s14 * 2)) vw22))
def S94_F91L2 (data1 : Slc) (n2 : Int) (c4 : Addr) (R : World → Prop) (I16 : Int → World → Prop) (s14 : Int) (vw15 : World) : Prop :=
  Br (decide (s14 < n2)) (Lp (σ := Int × Int) (S94_F91L1 data1 n2 c4 s14 I16) (0, IntKind.i64.wrap (2 * s14)) vw15) (R vw15)
def S94_F91L3 (data1 : Slc) (n2 : Int) (c4 : Addr) (R : World → Prop) (I11 : (Int × Int) → World → Prop) (s9 : Int × Int) (vw10 : World) : Prop :=
  Br (decide (s9.2 ≤ n2)) (C96 data1 s9.1 s9.2 (.func (.func 91) #[] #[.pointer (some c4)]) vw10 fun vw12 =>
      I11 (s9.2, IntKind.i64.wrap (s9.2 + 20)) vw12) (C96 data1 s9.1 n2 (.func (.func 91) #[] #[.pointer (some c4)]) vw10 fun vw13 =>
      Lp (σ := Int) (S94_F91L2 data1 n2 c4 R) 20 vw13)
/-- slices.stableCmpFunc[*foliant/code.coin] -/
def S94_F91 (data1 : Slc) (n2 : Int) (c4 : Addr) (w : World) (R : World → Prop) : Prop :=
  Lp (σ := Int × Int) (S94_F91L3 data1 n2 c4 R) (0, 20) w
def pl94_F91 : Plan := (.seq (.reg .seq) (.seq (.reg .seq) (.seq (.block (.loop [(7, (.one (.int .i64))), (8, (.one (.int .i64)))] [0, 1, 2, 6] (.seq (.seq (.reg .seq) (.cond .leaf .leaf)) (.block (.seq (.reg .seq) (.seq (.reg .seq) (.reg .seq))))))) (.seq (.reg .seq) (.block (.loop [(6, (.one (.int .i64)))] [0, 1, 2] (.seq (.seq (.reg .seq) (.cond .leaf .leaf)) (.block (.seq (.reg .seq) (.seq (.block (.loop [(7, (.one (.int .i64))), (8, (.one (.int .i64)))] [0, 1, 2, 6] (.seq (.seq (.reg .seq) (.cond .leaf .leaf)) (.block (.seq (.reg .seq) (.seq (.reg .seq) (.reg .seq))))))) (.seq (.seq (.reg .seq) (.seq (.reg .seq) (.cond (.reg .seq) .leaf))) (.reg .seq))))))))))))
set_option maxRecDepth 100000 in
theorem T94_F91 (data1 : Slc) (n2 : Int) (c4 : Addr) (w : World) (R : World → Prop) (h : S94_F91 data1 n2 c4 w R) : C94 data1 n2 (.func (.func 91) #[] #[.pointer (some c4)]) w R := by
  have e : fnT Try.prog ⟨FF, MAY, (fun _ _ => False)⟩ pl94_F91 Try.f94 [Slc.v data1, .int .i64 n2, .func (.func 91) #[] #[.pointer (some c4)]] w [] (fun _ w => R w) = S94_F91 data1 n2 c4 w R := by kernel_rfl
  exact (fn_calls okF okM Try.func94 (by kernel_rfl) (by kernel_rfl) (e.mpr h)).mono fun _ _ ⟨_, he, hR⟩ => ⟨he, hR⟩

/-- slices.SortStableFunc[[]*foliant/code.coin,*foliant/code.coin] -/
def S90_F91 (x1 : Slc) (c3 : Addr) (w : World) (R : World → Prop) : Prop :=
  C94 x1 ((x1.len : Nat) : Int) (.func (.func 91) #[] #[.pointer (some c3)]) w fun vw4 =>
    R vw4
def pl90_F91 : Plan := (.reg .seq)
set_option maxRecDepth 100000 in
theorem T90_F91 (x1 : Slc) (c3 : Addr) (w : World) (R : World → Prop) (h : S90_F91 x1 c3 w R) : C90 x1 (.func (.func 91) #[] #[.pointer (some c3)]) w R := by
  have e : fnT Try.prog ⟨FF, MAY, (fun _ _ => False)⟩ pl90_F91 Try.f90 [Slc.v x1, .func (.func 91) #[] #[.pointer (some c3)]] w [] (fun _ w => R w) = S90_F91 x1 c3 w R := by kernel_rfl
  exact (fn_calls okF okM Try.func90 (by kernel_rfl) (by kernel_rfl) (e.mpr h)).mono fun _ _ ⟨_, he, hR⟩ => ⟨he, hR⟩

/-- foliant/code.sorted[*foliant/code.coin] -/
def S79_F80 (a1 : Slc) (b2 : Slc) (w : World) (R : Slc → World → Prop) (PR : Value → World → Prop) : Prop :=
  Nw w (.cells #[.func (.func 80) #[] #[]] 136) fun vw4 =>
  Nw vw4 (.cells #[Slc.v a1, Slc.v b2] 116) fun vw5 =>
  C89 (⟨some ⟨vw4.heap.size, 0, none⟩, 2, 2⟩ : Slc) vw5 (fun r6 vw7 =>
    C90 r6 (.func (.func 91) #[] #[.pointer (some (⟨w.heap.size, 0, none⟩ : Addr))]) vw7 fun vw8 =>
      R r6 vw8) PR
def pl79_F80 : Plan := (.seq (.reg .seq) (.seq (.reg .seq) (.seq (.reg .seq) (.seq (.reg .seq) .leaf))))
set_option maxRecDepth 100000 in
theorem T79_F80 (a1 : Slc) (b2 : Slc) (w : World) (R : Slc → World → Prop) (PR : Value → World → Prop) (h : S79_F80 a1 b2 w R PR) : C79 a1 b2 (.func (.func 80) #[] #[]) w R PR := by
  have e : fnT Try.prog ⟨FF, MAY, PR⟩ pl79_F80 Try.f79 [Slc.v a1, Slc.v b2, .func (.func 80) #[] #[]] w [(.one .slc)] (fun s w => R s w) = S79_F80 a1 b2 w R PR := by kernel_rfl
  exact (fn_callsP okF okM Try.func79 (by kernel_rfl) (by kernel_rfl) (e.mpr h)).mono fun _ _ he => he.elim (fun ⟨s, he, hR⟩ => .inl ⟨s, he, hR⟩) .inr

/-- foliant/code.merged -/
def S66 (a1 : Slc) (b2 : Slc) (w : World) (R : Slc → World → Prop) (PR : Value → World → Prop) : Prop :=
  C79 a1 b2 (.func (.func 80) #[] #[]) w (fun r3 vw4 =>
    R r3 vw4) PR
def pl66 : Plan := (.seq (.reg .seq) (.seq (.reg .seq) .leaf))
set_option maxRecDepth 100000 in
theorem T66 (a1 : Slc) (b2 : Slc) (w : World) (R : Slc → World → Prop) (PR : Value → World → Prop) (h : S66 a1 b2 w R PR) : C66 a1 b2 w R PR := by
  have e : fnT Try.prog ⟨FF, MAY, PR⟩ pl66 Try.f66 [Slc.v a1, Slc.v b2] w [(.one .slc)] (fun s w => R s w) = S66 a1 b2 w R PR := by kernel_rfl
  exact (fn_callsP okF okM Try.func66 (by kernel_rfl) (by kernel_rfl) (e.mpr h)).mono fun _ _ he => he.elim (fun ⟨s, he, hR⟩ => .inl ⟨s, he, hR⟩) .inr

def S67L1 (l1 : Slc) (R : Slc → World → Prop) (I4 : (Slc × Int) → World → Prop) (s2 : Slc × Int) (vw3 : World) : Prop :=
  Br (decide ((IntKind.i64.wrap (s2.2 + 1)) < ((l1.len : Nat) : Int))) (∃ vS5 : World → Prop, vS5 vw3.drew ∧ 0 ≤ s2.2 ∧ s2.2 < (l1.len : Nat) ∧ Nn l1.p fun a6 =>
    LdS vS5 (a6.add ((s2.2).toNat * 1)) Value.pointer fun (x7 : Option Addr) =>
    Nn x7 fun a8 =>
    LdS vS5 a8 (Value.int .i64) fun (x9 : Int) =>
    0 ≤ (IntKind.i64.wrap (s2.2 + 1)) ∧ (IntKind.i64.wrap (s2.2 + 1)) < (l1.len : Nat) ∧ Nn l1.p fun a10 =>
    LdS vS5 (a10.add ((IntKind.i64.wrap (s2.2 + 1)).toNat * 1)) Value.pointer fun (x11 : Option Addr) =>
    Nn x11 fun a12 =>
    LdS vS5 a12 (Value.int .i64) fun (x13 : Int) =>
    0 ≤ s2.2 ∧ s2.2 < (l1.len : Nat) ∧ Nn l1.p fun a14 =>
    LdS vS5 (a14.add ((s2.2).toNat * 1)) Value.pointer fun (x15 : Option Addr) =>
    0 ≤ (IntKind.i64.wrap (s2.2 + 1)) ∧ (IntKind.i64.wrap (s2.2 + 1)) < (l1.len : Nat) ∧ Nn l1.p fun a16 =>
    LdS vS5 (a16.add ((IntKind.i64.wrap (s2.2 + 1)).toNat * 1)) Value.pointer fun (x17 : Option Addr) =>
    Nw vw3.drew (.cells #[.int .i64 (IntKind.i64.wrap (x9 + x13)), .int .i64 0, .pointer x15, .pointer x17] 119) fun vw18 =>
    Nw vw18 (.cells #[.pointer (some (⟨vw3.drew.heap.size, 0, none⟩ : Addr))] 117) fun vw19 =>
    Rn Try.prog (Builtin.append_ #[116, 116] 116 #[Slc.v s2.1, Slc.v ((⟨some ⟨vw18.heap.size, 0, none⟩, 1, 1⟩ : Slc))]) vw19 Slc.v fun (x20 : Slc) vw21 =>
    I4 (x20, IntKind.i64.wrap (s2.2 + 2)) vw21) (R s2.1 vw3)
/-- foliant/code.pairs -/
def S67 (l1 : Slc) (w : World) (R : Slc → World → Prop) : Prop :=
  Lp (σ := Slc × Int) (S67L1 l1 R) ((⟨none, 0, 0⟩ : Slc), 0) w
def pl67 : Plan := (.seq (.reg .seq) (.seq (.reg .seq) (.seq (.seq (.reg .seq) (.block (.loop [(3, (.one .slc)), (4, (.one (.int .i64)))] [0] (.seq (.seq (.reg .seq) (.cond .leaf .leaf)) (.seq (.block (.reg (.held [26] (.take 0 (.take 1 (.take 2 (.take 3 (.take 4 (.take 5 (.take 6 (.take 7 (.take 8 (.take 9 (.take 10 (.take 11 (.take 12 (.take 13 (.take 14 (.take 15 (.take 16 (.take 17 (.take 18 (.take 19 (.take 20 (.take 21 (.take 22 (.take 23 (.take 24 (.take 25 (.eff 26 (some [27]) (.eff 27 (some [28]) (.eff 28 (some [29]) (.eff 29 (some []) (.take 30 .done)))))))))))))))))))))))))))))))))) (.reg .seq)))))) (.seq (.reg .seq) .leaf))))
set_option maxRecDepth 100000 in
theorem T67 (l1 : Slc) (w : World) (R : Slc → World → Prop) (h : S67 l1 w R) : C67 l1 w R := by
  have e : fnT Try.prog ⟨FF, MAY, (fun _ _ => False)⟩ pl67 Try.f67 [Slc.v l1] w [(.one .slc)] (fun s w => R s w) = S67 l1 w R := by kernel_rfl
  exact (fn_calls okF okM Try.func67 (by kernel_rfl) (by kernel_rfl) (e.mpr h)).mono fun _ _ ⟨s, he, hR⟩ => ⟨s, he, hR⟩

/-- foliant/code.Lengths$1 -/
def S69 (sign1 : Int) (c2 : Addr) (w : World) (R : World → Prop) : Prop :=
  Ld w c2 Slc.v fun (x3 : Slc) =>
  0 ≤ sign1 ∧ sign1 < (x3.len : Nat) ∧ Nn x3.p fun a4 =>
  Ld w (a4.add ((sign1).toNat * 1)) (Value.int .i64) fun (x5 : Int) =>
  0 ≤ sign1 ∧ sign1 < (x3.len : Nat) ∧ Nn x3.p fun a6 =>
  St w (a6.add ((sign1).toNat * 1)) (.int .i64 (IntKind.i64.wrap (x5 + 1))) fun vw7 =>
  R vw7
def pl69 : Plan := (.reg .seq)
set_option maxRecDepth 100000 in
theorem T69 (sign1 : Int) (c2 : Addr) (w : World) (R : World → Prop) (h : S69 sign1 c2 w R) : C69 sign1 c2 w R := by
  have e : fnT Try.prog ⟨FF, MAY, (fun _ _ => False)⟩ pl69 Try.f69 [.int .i64 sign1, .pointer (some c2)] w [] (fun _ w => R w) = S69 sign1 c2 w R := by kernel_rfl
  exact (fn_calls okF okM Try.func69 (by kernel_rfl) (by kernel_rfl) (e.mpr h)).mono fun _ _ ⟨_, he, hR⟩ => ⟨he, hR⟩

/-- (*foliant/code.coin).each -/
def S68_F69 (c1 : Option Addr) (c3 : Addr) (w : World) (R : World → Prop) : Prop :=
  Nn c1 fun a9 =>
  Ld w (a9.add 2) Value.pointer fun (x10 : Option Addr) =>
  Br x10.isNone (Nn c1 fun a11 =>
    Ld w (a11.add 1) (Value.int .i64) fun (x12 : Int) =>
    C69 x12 c3 w fun vw13 =>
      R vw13) (Nn c1 fun a14 =>
    Ld w (a14.add 2) Value.pointer fun (x15 : Option Addr) =>
    C68 x15 (.func (.func 69) #[] #[.pointer (some c3)]) w fun vw16 =>
      Nn c1 fun a17 =>
      Ld vw16 (a17.add 3) Value.pointer fun (x18 : Option Addr) =>
      C68 x18 (.func (.func 69) #[] #[.pointer (some c3)]) vw16 fun vw19 =>
        R vw19)
def pl68_F69 : Plan := (.seq (.seq (.reg .seq) (.cond (.seq (.reg .seq) .leaf) .leaf)) (.seq (.reg .seq) (.reg .seq)))
set_option maxRecDepth 100000 in
theorem T68_F69 (c1 : Option Addr) (c3 : Addr) (w : World) (R : World → Prop) (h : S68_F69 c1 c3 w R) : C68 c1 (.func (.func 69) #[] #[.pointer (some c3)]) w R := by
  have e : fnT Try.prog ⟨FF, MAY, (fun _ _ => False)⟩ pl68_F69 Try.f68 [.pointer c1, .func (.func 69) #[] #[.pointer (some c3)]] w [] (fun _ w => R w) = S68_F69 c1 c3 w R := by kernel_rfl
  exact (fn_calls okF okM Try.func68 (by kernel_rfl) (by kernel_rfl) (e.mpr h)).mono fun _ _ ⟨_, he, hR⟩ => ⟨he, hR⟩

def S45L1 (vw22 : World) (r36 : Slc) (s45 : Slc × Int) (x52 : Int) (R : Slc → Int → World → Prop) (I55 : Int → World → Prop) (s53 : Int) (vw54 : World) : Prop :=
  Br (decide (s53 < x52)) (0 ≤ s53 ∧ s53 < ((s45.1.cut 1 0 ((IntKind.i64.wrap ((IntKind.i64.wrap (2 * ((r36.len : Nat) : Int))) - 2)).toNat) s45.1.cap).len : Nat) ∧ Nn (s45.1.cut 1 0 ((IntKind.i64.wrap ((IntKind.i64.wrap (2 * ((r36.len : Nat) : Int))) - 2)).toNat) s45.1.cap).p fun a56 =>
    Ld vw54 (a56.add ((s53).toNat * 1)) Value.pointer fun (x57 : Option Addr) =>
    C68 x57 (.func (.func 69) #[] #[.pointer (some (⟨vw22.heap.size, 0, none⟩ : Addr))]) vw54 fun vw58 =>
      I55 (IntKind.i64.wrap (s53 + 1)) vw58) (Ld vw54 (⟨vw22.heap.size, 0, none⟩ : Addr) Slc.v fun (x59 : Slc) =>
    R x59 0 vw54)
def S45L2 (most2 : Int) (vw22 : World) (r36 : Slc) (R : Slc → Int → World → Prop) (PR : Value → World → Prop) (I47 : (Slc × Int) → World → Prop) (s45 : Slc × Int) (vw46 : World) : Prop :=
  Br (decide (s45.2 < (IntKind.i64.wrap (most2 - 1)))) (C67 s45.1 vw46 fun r48 vw49 =>
      C66 r36 r48 vw49 (fun r50 vw51 =>
        I47 (r50, IntKind.i64.wrap (s45.2 + 1)) vw51) PR) (0 ≤ (IntKind.i64.wrap ((IntKind.i64.wrap (2 * ((r36.len : Nat) : Int))) - 2)) ∧ (IntKind.i64.wrap ((IntKind.i64.wrap (2 * ((r36.len : Nat) : Int))) - 2)) ≤ ((s45.1.cap : Nat) : Int) ∧ Lt ((((s45.1.cut 1 0 ((IntKind.i64.wrap ((IntKind.i64.wrap (2 * ((r36.len : Nat) : Int))) - 2)).toNat) s45.1.cap).len : Nat) : Int)) fun (x52 : Int) =>
    Lp (σ := Int) (S45L1 vw22 r36 s45 x52 R) 0 vw46)
def S45J1 (most2 : Int) (s12 : Slc × Int) (vw22 : World) (R : Slc → Int → World → Prop) (PR : Value → World → Prop) (s32 : Unit) (vw33 : World) : Prop :=
  Br (decide (((s12.1.len : Nat) : Int) < 2)) (Ld vw33 (⟨vw22.heap.size, 0, none⟩ : Addr) Slc.v fun (x35 : Slc) =>
    R x35 0 vw33) (C66 s12.1 (⟨none, 0, 0⟩ : Slc) vw33 (fun r36 vw37 =>
      Lp (σ := Slc × Int) (S45L2 most2 vw22 r36 R PR) (r36, 0) vw37) PR)
def S45L3 (counts1 : Slc) (most2 : Int) (R : Slc → Int → World → Prop) (PR : Value → World → Prop) (I14 : (Slc × Int) → World → Prop) (s12 : Slc × Int) (vw13 : World) : Prop :=
  Br (decide (s12.2 < ((counts1.len : Nat) : Int))) (0 ≤ s12.2 ∧ s12.2 < (counts1.len : Nat) ∧ Nn counts1.p fun a15 =>
    Ld vw13 (a15.add ((s12.2).toNat * 1)) (Value.int .i64) fun (x16 : Int) =>
    Br (decide (x16 < 0)) (R (⟨none, 0, 0⟩ : Slc) 1 vw13) (Br (decide (x16 > 2147483647)) (R (⟨none, 0, 0⟩ : Slc) 1 vw13) (Br (decide (x16 > 0)) (Nw vw13 (.cells #[.int .i64 x16, .int .i64 (s12.2), .pointer none, .pointer none] 119) fun vw17 =>
          Nw vw17 (.cells #[.pointer (some (⟨vw13.heap.size, 0, none⟩ : Addr))] 117) fun vw18 =>
          Rn Try.prog (Builtin.append_ #[116, 116] 116 #[Slc.v s12.1, Slc.v ((⟨some ⟨vw17.heap.size, 0, none⟩, 1, 1⟩ : Slc))]) vw18 Slc.v fun (x19 : Slc) vw20 =>
          I14 (x19, IntKind.i64.wrap (s12.2 + 1)) vw20) (I14 (s12.1, IntKind.i64.wrap (s12.2 + 1)) vw13)))) (0 ≤ most2 ∧ Br (decide (((s12.1.len : Nat) : Int) > (IntKind.i64.wrap (1 * 2 ^ (min (most2).toNat 64))))) (R (⟨none, 0, 0⟩ : Slc) 13 vw13) (Rn Try.prog (Instr.makeSlice 72 (.int .i64 ((counts1.len : Nat) : Int)) (.int .i64 ((counts1.len : Nat) : Int))) vw13 Slc.v fun (x21 : Slc) vw22 =>
      Nw vw22 (.cells #[Slc.v ((⟨none, 0, 0⟩ : Slc))] 72) fun vw23 =>
      St vw23 (⟨vw22.heap.size, 0, none⟩ : Addr) (Slc.v x21) fun vw24 =>
      Join (S45J1 most2 s12 vw22 R PR) fun (vJ60 : Unit → World → Prop) =>
        Br (((s12.1.len : Nat) : Int) == 1) (Ld vw24.drew (⟨vw22.heap.size, 0, none⟩ : Addr) Slc.v fun (x61 : Slc) =>
          0 ≤ (0 : Int) ∧ (0 : Int) < (s12.1.len : Nat) ∧ Nn s12.1.p fun a62 =>
          Ld vw24.drew (a62.add (((0 : Int)).toNat * 1)) Value.pointer fun (x63 : Option Addr) =>
          Nn x63 fun a64 =>
          Ld vw24.drew (a64.add 1) (Value.int .i64) fun (x65 : Int) =>
          0 ≤ x65 ∧ x65 < (x61.len : Nat) ∧ Nn x61.p fun a66 =>
          St vw24.drew (a66.add ((x65).toNat * 1)) (.int .i64 1) fun vw67 =>
          vJ60 () vw67) (vJ60 () vw24)))
/-- foliant/code.Lengths -/
def S45 (counts1 : Slc) (most2 : Int) (w : World) (R : Slc → Int → World → Prop) (PR : Value → World → Prop) : Prop :=
  Br (decide (((counts1.len : Nat) : Int) > 288)) (R (⟨none, 0, 0⟩ : Slc) 6 w) (Br (decide (most2 < 1)) (R (⟨none, 0, 0⟩ : Slc) 1 w) (Br (decide (most2 > 15)) (R (⟨none, 0, 0⟩ : Slc) 1 w) (Lp (σ := Slc × Int) (S45L3 counts1 most2 R PR) ((⟨none, 0, 0⟩ : Slc), 0) w)))
def pl45 : Plan := (.seq (.reg .seq) (.seq (.seq (.reg .seq) (.cond (.seq (.reg .seq) .leaf) .leaf)) (.seq (.seq (.reg .seq) (.cond (.seq (.reg .seq) .leaf) .leaf)) (.seq (.reg .seq) (.seq (.seq (.reg .seq) (.block (.loop [(6, (.one .slc)), (24, (.one (.int .i64)))] [0, 1, 22, 23] (.seq (.reg .seq) (.seq (.cond .leaf .leaf) (.seq (.block (.seq (.reg .seq) (.seq (.seq (.reg .seq) (.cond (.seq (.reg .seq) .leaf) .leaf)) (.seq (.reg .seq) (.cond (.reg .seq) .leaf))))) (.reg .seq))))))) (.seq (.seq (.reg .seq) (.cond (.seq (.reg .seq) .leaf) .leaf)) (.seq (.reg .seq) (.join [] [1, 6, 9] (.seq (.reg .seq) (.cond (.reg (.tail 8)) .leaf)) (.seq (.seq (.reg .seq) (.cond (.seq (.reg .seq) .leaf) .leaf)) (.seq (.reg .seq) (.seq (.reg .seq) (.seq (.seq (.reg .seq) (.block (.loop [(10, (.one .slc)), (73, (.one (.int .i64)))] [6, 9, 72] (.seq (.reg .seq) (.seq (.cond .leaf .leaf) (.seq (.block (.reg .seq)) (.reg .seq))))))) (.seq (.seq (.reg .seq) (.block (.loop [(87, (.one (.int .i64)))] [9, 85, 86] (.seq (.reg .seq) (.seq (.cond .leaf .leaf) (.seq (.block (.seq (.reg .seq) (.reg .seq))) (.reg .seq))))))) (.seq (.reg .seq) .leaf))))))))))))))
set_option maxRecDepth 100000 in
theorem T45 (counts1 : Slc) (most2 : Int) (w : World) (R : Slc → Int → World → Prop) (PR : Value → World → Prop) (h : S45 counts1 most2 w R PR) : C45 counts1 most2 w R PR := by
  have e : fnT Try.prog ⟨FF, MAY, PR⟩ pl45 Try.f45 [Slc.v counts1, .int .i64 most2] w [(.one .slc), (.one (.int .i64))] (fun s w => R s.1 s.2 w) = S45 counts1 most2 w R PR := by kernel_rfl
  exact (fn_callsP okF okM Try.func45 (by kernel_rfl) (by kernel_rfl) (e.mpr h)).mono fun _ _ he => he.elim (fun ⟨s, he, hR⟩ => .inl ⟨s.1, s.2, he, hR⟩) .inr

end Go.Proofs.Ytjkoafjnmkchdaa

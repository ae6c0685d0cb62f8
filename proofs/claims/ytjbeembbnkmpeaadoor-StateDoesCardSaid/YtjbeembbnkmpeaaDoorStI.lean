/- Graphics states: what an operator does to a machine, case by case; plain. No condition. -/
import Derived.Test.YtjbeembbnkmpeaaDoorStH
namespace Go.Proofs.YtjbeembbnkmpeaaDoor
namespace Ste
open Sh Mat Opr
set_option linter.unusedVariables false
set_option linter.unusedSimpArgs false
section
variable {m : Mc} {q : Opn} {p : P} {r : List P} {e : Int}
theorem doF_unk (h : q.nm ∉ known) : doF m q = (8, m) := by unfold doF; rw [if_pos h]
theorem doF_chk (h : q.nm ∈ known) (h2 : chkF q.nm q.L q.d ≠ 0) : doF m q = (chkF q.nm q.L q.d, m) := by
  unfold doF
  rw [if_neg (fun hn => hn h), if_pos h2]
theorem doF_in (h : q.nm ∈ known) (h2 : chkF q.nm q.L q.d = 0) : doF m q = ((if q.nm = [113] then (if m.saved.length < 28 then (0, ⟨m.now, m.now :: m.saved⟩) else (6, m))
  else if q.nm = [81] then (match m.saved with
    | [] => (29, m)
    | p :: r => (0, ⟨p, r⟩))
  else match chgF q.nm q.L q.K m.now with
    | .error e => (e, m)
    | .ok p => (0, ⟨p, m.saved⟩)) : Int × Mc) := by
  unfold doF
  rw [if_neg (fun hn => hn h), if_neg (fun hn => hn h2)]
  rfl
theorem doF_q (h : q.nm ∈ known) (h2 : chkF q.nm q.L q.d = 0) (hq : q.nm = [113]) (hl : m.saved.length < 28) : doF m q = (0, ⟨m.now, m.now :: m.saved⟩) := by
  rw [doF_in h h2, if_pos hq, if_pos hl]
theorem doF_qE (h : q.nm ∈ known) (h2 : chkF q.nm q.L q.d = 0) (hq : q.nm = [113]) (hl : ¬ m.saved.length < 28) : doF m q = (6, m) := by
  rw [doF_in h h2, if_pos hq, if_neg hl]
theorem doF_Q (h : q.nm ∈ known) (h2 : chkF q.nm q.L q.d = 0) (hq : q.nm = [81]) (hl : m.saved = p :: r) : doF m q = (0, ⟨p, r⟩) := by
  rw [doF_in h h2, if_neg (by rw [hq]; decide), if_pos hq, hl]
theorem doF_QE (h : q.nm ∈ known) (h2 : chkF q.nm q.L q.d = 0) (hq : q.nm = [81]) (hl : m.saved = []) : doF m q = (29, m) := by
  rw [doF_in h h2, if_neg (by rw [hq]; decide), if_pos hq, hl]
theorem doF_ok (h : q.nm ∈ known) (h2 : chkF q.nm q.L q.d = 0) (hq : q.nm ≠ [113]) (hQ : q.nm ≠ [81]) (hc : chgF q.nm q.L q.K m.now = .ok p) : doF m q = (0, ⟨p, m.saved⟩) := by
  rw [doF_in h h2, if_neg hq, if_neg hQ, hc]
theorem doF_er (h : q.nm ∈ known) (h2 : chkF q.nm q.L q.d = 0) (hq : q.nm ≠ [113]) (hQ : q.nm ≠ [81]) (hc : chgF q.nm q.L q.K m.now = .error e) : doF m q = (e, m) := by
  rw [doF_in h h2, if_neg hq, if_neg hQ, hc]
end
theorem bnd_inv {α β : Type} {x : Except Int α} {f : α → Except Int β} {b : β} (h : bnd x f = .ok b) : ∃ a, x = .ok a ∧ f a = .ok b := by
  cases x with
  | error e => cases h
  | ok a => exact ⟨a, rfl, h⟩
theorem abv_pos {o : Ob} {n : Int} (h : abv o = .ok n) : 0 ≤ n := by
  unfold abv at h
  split at h
  · cases h
  · split at h
    · cases h
      assumption
    · cases h
theorem abvs_pos : ∀ {L : List Ob} {l : List Int}, abvs L = .ok l → l.length = L.length ∧ ∀ n ∈ l, 0 ≤ n
  | [], l, h => by
    cases h
    exact ⟨rfl, fun n hn => (List.not_mem_nil hn).elim⟩
  | o :: L, l, h => by
    unfold abvs at h
    split at h
    · cases h
    · rename_i n hn
      split at h
      · cases h
      · rename_i r hr
        cases h
        obtain ⟨h1, h2⟩ := abvs_pos hr
        refine ⟨by rw [List.length_cons, List.length_cons, h1], fun y hy => ?_⟩
        rcases List.mem_cons.1 hy with rfl | hy
        · exact abv_pos hn
        · exact h2 y hy
theorem dshF_pos {K : List Ob} {o : Ob} {r : List Int × Int} (h : dshF K o = .ok r) : r.1.length ≤ 32 ∧ ∀ n ∈ r.1, 0 ≤ n := by
  unfold dshF at h
  split at h
  · cases h
  · rename_i hk
    split at h
    · cases h
    · split at h
      · cases h
      · rename_i l hl
        split at h
        · cases h
        · cases h
          obtain ⟨h1, h2⟩ := abvs_pos hl
          exact ⟨by dsimp only; omega, h2⟩
theorem ifK {c : Prop} [Decidable c] {α : Type} {x y z : α} (h : (if c then x else y) = z) : (c ∧ x = z) ∨ (¬ c ∧ y = z) := by
  by_cases hc : c
  · rw [if_pos hc] at h
    exact .inl ⟨hc, h⟩
  · rw [if_neg hc] at h
    exact .inr ⟨hc, h⟩
theorem chg_dash {nm : By} {L K : List Ob} {p p' : P} (h : chgF nm L K p = .ok p') : p'.2 = p.2 ∨ (p'.2.length ≤ 32 ∧ ∀ n ∈ p'.2, 0 ≤ n) := by
  have one : ∀ {α : Type} {x : Except Int α} {f : α → G}, bnd x (fun a => .ok (f a, p.2)) = .ok p' → p'.2 = p.2 := fun h => by
    obtain ⟨a, _, hf⟩ := bnd_inv h
    cases hf
    rfl
  unfold chgF at h
  rcases ifK h with ⟨_, h⟩ | ⟨_, h⟩
  · obtain ⟨a, ha, hf⟩ := bnd_inv h
    unfold turnF at hf
    split at hf
    · cases hf
      exact .inl rfl
    · cases hf
  rcases ifK h with ⟨_, h⟩ | ⟨_, h⟩
  · exact .inl (one h)
  rcases ifK h with ⟨_, h⟩ | ⟨_, h⟩
  · exact .inl (one h)
  rcases ifK h with ⟨_, h⟩ | ⟨_, h⟩
  · exact .inl (one h)
  rcases ifK h with ⟨_, h⟩ | ⟨_, h⟩
  · exact .inl (one h)
  rcases ifK h with ⟨_, h⟩ | ⟨_, h⟩
  · obtain ⟨a, ha, hf⟩ := bnd_inv h
    cases hf
    exact .inr (dshF_pos ha)
  rcases ifK h with ⟨_, h⟩ | ⟨_, h⟩
  · exact .inl (one h)
  rcases ifK h with ⟨_, h⟩ | ⟨_, h⟩
  · exact .inl (one h)
  rcases ifK h with ⟨_, h⟩ | ⟨_, h⟩
  · exact .inl (one h)
  rcases ifK h with ⟨_, h⟩ | ⟨_, h⟩
  · exact .inl (one h)
  rcases ifK h with ⟨_, h⟩ | ⟨_, h⟩
  · exact .inl (one h)
  rcases ifK h with ⟨_, h⟩ | ⟨_, h⟩
  · exact .inl (one h)
  rcases ifK h with ⟨_, h⟩ | ⟨_, h⟩
  · cases h
    exact .inl rfl
  rcases ifK h with ⟨_, h⟩ | ⟨_, h⟩
  · cases h
    exact .inl rfl
  rcases ifK h with ⟨_, h⟩ | ⟨_, h⟩
  · cases h
    exact .inl rfl
  rcases ifK h with ⟨_, h⟩ | ⟨_, h⟩
  · exact .inl (one h)
  rcases ifK h with ⟨_, h⟩ | ⟨_, h⟩
  · exact .inl (one h)
  rcases ifK h with ⟨_, h⟩ | ⟨_, h⟩
  · exact .inl (one h)
  rcases ifK h with ⟨_, h⟩ | ⟨_, h⟩
  · exact .inl (one h)
  rcases ifK h with ⟨_, h⟩ | ⟨_, h⟩
  · exact .inl (one h)
  rcases ifK h with ⟨_, h⟩ | ⟨_, h⟩
  · exact .inl (one h)
  rcases ifK h with ⟨_, h⟩ | ⟨_, h⟩
  · exact .inl (one h)
  cases h
end Ste
end Go.Proofs.YtjbeembbnkmpeaaDoor

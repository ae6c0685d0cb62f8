/- What operators keep: a refused one changes nothing, dashes are not negative, what was saved comes back; plain. No condition. -/
import Derived.Test.YtjbeembbnkmpeaaDoorStM
namespace Go.Proofs.YtjbeembbnkmpeaaDoor
namespace Ste
open Sh Mat Opr
set_option linter.unusedVariables false
set_option linter.unusedSimpArgs false
section
variable {m m' : Mc} {q : Opn} {p : P} {r old : List P} {e : Int}
theorem doF_stay (h : doF m q = (e, m')) (he : e ≠ 0) : m' = m := by
  by_cases hk : q.nm ∈ known
  case neg =>
    rw [doF_unk hk] at h
    cases h
    rfl
  by_cases hc : chkF q.nm q.L q.d = 0
  case neg =>
    rw [doF_chk hk hc] at h
    cases h
    rfl
  by_cases hq : q.nm = [113]
  · by_cases hl : m.saved.length < 28
    · rw [doF_q hk hc hq hl] at h
      cases h
      exact absurd rfl he
    · rw [doF_qE hk hc hq hl] at h
      cases h
      rfl
  by_cases hQ : q.nm = [81]
  · cases hs : m.saved with
    | nil =>
      rw [doF_QE hk hc hQ hs] at h
      cases h
      rfl
    | cons p r =>
      rw [doF_Q hk hc hQ hs] at h
      cases h
      exact absurd rfl he
  cases hg : chgF q.nm q.L q.K m.now with
  | error e' =>
    rw [doF_er hk hc hq hQ hg] at h
    cases h
    rfl
  | ok p =>
    rw [doF_ok hk hc hq hQ hg] at h
    cases h
    exact absurd rfl he
/-- No dash is negative. -/
def posM (m : Mc) : Prop := (∀ n ∈ m.now.2, 0 ≤ n) ∧ ∀ p ∈ m.saved, ∀ n ∈ p.2, 0 ≤ n
theorem doF_pos (h : doF m q = (e, m')) (hm : posM m) : posM m' := by
  by_cases he : e = 0
  case neg => rw [doF_stay h he]; exact hm
  subst he
  by_cases hk : q.nm ∈ known
  case neg =>
    rw [doF_unk hk] at h
    cases h
  by_cases hc : chkF q.nm q.L q.d = 0
  case neg =>
    rw [doF_chk hk hc] at h
    injection h with h1 h2
    rw [← h2]
    exact hm
  by_cases hq : q.nm = [113]
  · by_cases hl : m.saved.length < 28
    · rw [doF_q hk hc hq hl] at h
      cases h
      refine ⟨hm.1, fun p hp => ?_⟩
      rcases List.mem_cons.1 hp with rfl | hp
      · exact hm.1
      · exact hm.2 p hp
    · rw [doF_qE hk hc hq hl] at h
      cases h
  by_cases hQ : q.nm = [81]
  · cases hs : m.saved with
    | nil =>
      rw [doF_QE hk hc hQ hs] at h
      cases h
    | cons p r =>
      rw [doF_Q hk hc hQ hs] at h
      cases h
      refine ⟨hm.2 p (by rw [hs]; exact List.mem_cons_self ..), fun p' hp => hm.2 p' (by rw [hs]; exact List.mem_cons_of_mem _ hp)⟩
  cases hg : chgF q.nm q.L q.K m.now with
  | error e' =>
    rw [doF_er hk hc hq hQ hg] at h
    injection h with h1 h2
    rw [← h2]
    exact hm
  | ok p =>
    rw [doF_ok hk hc hq hQ hg] at h
    cases h
    refine ⟨?_, hm.2⟩
    rcases chg_dash hg with hd | ⟨_, hd⟩
    · show ∀ n ∈ p.2, 0 ≤ n
      rw [hd]
      exact hm.1
    · exact hd
theorem sames {x : G} {D : List Int} : True := trivial
/-- The state p and the older ones lie below; above them only what was saved later. -/
def Above (m : Mc) (p : P) (old : List P) : Prop := ∃ pre, m.saved = pre ++ (p :: old)
theorem doF_above (h : doF m q = (e, m')) (hm : Above m p old) (hq2 : q.nm ≠ [81] ∨ old.length + 1 < m.saved.length) : Above m' p old := by
  obtain ⟨pre, hp⟩ := hm
  by_cases he : e = 0
  case neg => rw [doF_stay h he]; exact ⟨pre, hp⟩
  subst he
  by_cases hk : q.nm ∈ known
  case neg =>
    rw [doF_unk hk] at h
    cases h
  by_cases hc : chkF q.nm q.L q.d = 0
  case neg =>
    rw [doF_chk hk hc] at h
    injection h with h1 h2
    rw [← h2]
    exact ⟨pre, hp⟩
  by_cases hq : q.nm = [113]
  · by_cases hl : m.saved.length < 28
    · rw [doF_q hk hc hq hl] at h
      cases h
      exact ⟨m.now :: pre, by show m.now :: m.saved = _; rw [hp]; rfl⟩
    · rw [doF_qE hk hc hq hl] at h
      cases h
  by_cases hQ : q.nm = [81]
  · have hlen := hq2.resolve_left (fun h => h hQ)
    cases pre with
    | nil =>
      rw [hp] at hlen
      simp at hlen
    | cons a pre =>
      rw [doF_Q hk hc hQ (by rw [hp]; rfl)] at h
      cases h
      exact ⟨pre, rfl⟩
  cases hg : chgF q.nm q.L q.K m.now with
  | error e' =>
    rw [doF_er hk hc hq hQ hg] at h
    injection h with h1 h2
    rw [← h2]
    exact ⟨pre, hp⟩
  | ok p' =>
    rw [doF_ok hk hc hq hQ hg] at h
    cases h
    exact ⟨pre, hp⟩
theorem known_q : ([113] : By) ∈ known := by decide
theorem known_Q : ([81] : By) ∈ known := by decide
theorem chk_q : chkF [113] [] [] = 0 := by decide
theorem chk_Q : chkF [81] [] [] = 0 := by decide
/-- What q answers. -/
theorem do_q (m : Mc) : doF m ⟨[113], [], [], []⟩ = if m.saved.length < 28 then (0, ⟨m.now, m.now :: m.saved⟩) else (6, m) := by
  by_cases hl : m.saved.length < 28
  · rw [if_pos hl]
    exact doF_q (q := ⟨[113], [], [], []⟩) known_q chk_q rfl hl
  · rw [if_neg hl]
    exact doF_qE (q := ⟨[113], [], [], []⟩) known_q chk_q rfl hl
/-- What Q answers with a state saved. -/
theorem do_Q (h : m.saved = p :: r) : doF m ⟨[81], [], [], []⟩ = (0, ⟨p, r⟩) := doF_Q (q := ⟨[81], [], [], []⟩) known_Q chk_Q rfl h
theorem sameB_er {x y : G} {D E : List Int} (h : er x = er y) : sameB x y D E = sameB x x D E := by
  have e1 : sameB x y D E = sameB (up10 x nilS) (up10 y nilS) D E := (sameB_up x y nilS nilS D E).symm
  have e2 : sameB x x D E = sameB (up10 x nilS) (up10 x nilS) D E := (sameB_up x x nilS nilS D E).symm
  have e3 : up10 y nilS = up10 x nilS := by
    have : er x = up10 x nilS := rfl
    have : er y = up10 y nilS := rfl
    rw [← this, ← h]
    assumption
  rw [e1, e2, e3]
end
end Ste
end Go.Proofs.YtjbeembbnkmpeaaDoor
